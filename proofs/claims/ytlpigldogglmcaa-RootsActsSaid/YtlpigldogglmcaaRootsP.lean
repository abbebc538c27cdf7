/- Rows of ids: pack, Pop, List, New, and what a nil row does. -/
import Derived.Test.YtlpigldogglmcaaRootsW
set_option linter.unusedVariables false
set_option linter.unusedSimpArgs false
namespace Go.Proofs.Ytlpigldogglmcaa
open Go.RowKit
open Go.Proofs.YtlpigldogglmcaaW.PrintWords

section
variable {P : Program} {ops : Array Oper} {rest : List Oper} {o : Oper} {a : Act} {W w1 : World} {K : Act → World → Prop} {Q : Exit → Act → World → Prop} {E : Prop}
theorem run_builtin {b : Builtin} {ag : Array Operand} {ts : Array TypeId} {v : Value} (ho : o.op = .call { callee := .builtin b, args := ag, argTypes := ts })
    (hr : ∀ cs, (builtin b ts o.type cs (ag.map a.eval)).run P W = .ok (.value v) w1) : (execOp a.eval o).run P W = .ok (.value v) w1 := by
  unfold execOp
  simp only [ho, resolve, Sem.run_bind, Sem.run_pure, Result.andThen_ok, invoke]
  exact hr _
theorem wpl_builtin (hgd : o.guard = none) {b : Builtin} {ag : Array Operand} {ts : Array TypeId} {v : Value} (ho : o.op = .call { callee := .builtin b, args := ag, argTypes := ts })
    (hr : ∀ cs, (builtin b ts o.type cs (ag.map a.eval)).run P W = .ok (.value v) w1) (h : wpList P ops Q rest (a.put o.dst v) w1) : wpList P ops Q (o :: rest) a W :=
  Kd.event_run hgd (run_builtin ho hr) h
theorem step_builtin (hw : Region.wanted o (yielded ops a.tmps) = true) {b : Builtin} {ag : Array Operand} {ts : Array TypeId} {v : Value} (ho : o.op = .call { callee := .builtin b, args := ag, argTypes := ts })
    (hr : ∀ cs, (builtin b ts o.type cs (ag.map a.eval)).run P W = .ok (.value v) w1) (h : K (a.put o.dst v) w1) : if Region.wanted o (yielded ops a.tmps) = true then Oper.wp P o a W K Q else E := by
  rw [if_pos hw]
  unfold Oper.wp
  rw [run_builtin ho hr]
  exact h
theorem step_builtin2 (hw : Region.wanted o (yielded ops a.tmps) = true) {b : Builtin} {x y : Operand} {ts : Array TypeId} {v vx vy : Value} (ho : o.op = .call { callee := .builtin b, args := #[x, y], argTypes := ts })
    (hx : a.eval x = vx) (hy : a.eval y = vy) (hr : ∀ cs, (builtin b ts o.type cs #[vx, vy]).run P W = .ok (.value v) w1) (h : K (a.put o.dst v) w1) : if Region.wanted o (yielded ops a.tmps) = true then Oper.wp P o a W K Q else E :=
  step_builtin hw ho (fun cs => by simp only [List.map_toArray, List.map_cons, List.map_nil, hx, hy]; exact hr cs) h
theorem wpl_builtin2 (hgd : o.guard = none) {b : Builtin} {x y : Operand} {ts : Array TypeId} {v vx vy : Value} (ho : o.op = .call { callee := .builtin b, args := #[x, y], argTypes := ts })
    (hx : a.eval x = vx) (hy : a.eval y = vy) (hr : ∀ cs, (builtin b ts o.type cs #[vx, vy]).run P W = .ok (.value v) w1) (h : wpList P ops Q rest (a.put o.dst v) w1) : wpList P ops Q (o :: rest) a W :=
  wpl_builtin hgd ho (fun cs => by simp only [List.map_toArray, List.map_cons, List.map_nil, hx, hy]; exact hr cs) h
theorem bi_clear {ts : Array TypeId} {t : TypeId} {ag : Array Value} {v : Value} (hr : (Builtin.clear_ ts t ag).run P W = .ok v w1) : ∀ cs, (builtin .clear ts t cs ag).run P W = .ok (.value v) w1 := by
  intro cs
  show (do pure (.value (← Builtin.clear_ ts t ag)) : Sem Next).run P W = _
  simp [hr]
theorem bi_copy {ts : Array TypeId} {t : TypeId} {ag : Array Value} {v : Value} (hr : (Builtin.copy_ ts t ag).run P W = .ok v w1) : ∀ cs, (builtin .copy ts t cs ag).run P W = .ok (.value v) w1 := by
  intro cs
  show (do pure (.value (← Builtin.copy_ ts t ag)) : Sem Next).run P W = _
  simp [hr]
theorem bi_append {ts : Array TypeId} {t : TypeId} {ag : Array Value} {v : Value} (hr : (Builtin.append_ ts t ag).run P W = .ok v w1) : ∀ cs, (builtin .append ts t cs ag).run P W = .ok (.value v) w1 := by
  intro cs
  show (do pure (.value (← Builtin.append_ ts t ag)) : Sem Next).run P W = _
  simp [hr]
end
/-- What changes no block of the row's leaves it. -/
theorem RowRep.fr {w w' : World} {S T : Nat → Prop} {base N g : Nat} {W : List (Int × Int)} (h : RowRep w S base N g W) (hF : Fr T w w') (hn : ∀ k, S k → k < w.heap.size → ¬ T k) : RowRep w' S base N g W := by
  obtain ⟨hg, hS, L, k, m, A, n, c, f, hm, hB, hR, hk, hL, hW, hM, r⟩ := h
  exact ⟨hg, fun b hb => ⟨(hS b hb).1, Nat.lt_of_lt_of_le (hS b hb).2 hF.size⟩, L, k, m, A, n, c, f, hm, hB.fr hF (hn g hg (hS g hg).2),
    Kd.R_step hR (fun b hb hlt => hF.block b hlt (hn b hb hlt)), hk, hL, hW, hM.fr hF (hn m hm (hS m hm).2), r⟩
theorem RowRep.more {w : World} {S : Nat → Prop} {base N N' g : Nat} {W : List (Int × Int)} (h : RowRep w S base N g W) (hN : N ≤ N') : RowRep w S base N' g W := by
  obtain ⟨hg, hS, L, k, m, A, n, c, f, hm, hB, hR, hk, hL, r⟩ := h
  exact ⟨hg, hS, L, k, m, A, n, c, f, hm, hB, hR, hk, Nat.le_trans hL hN, r⟩
set_option maxRecDepth 100000 in
set_option maxHeartbeats 1000000 in
theorem row_pack {w : World} {S : Nat → Prop} {base N g : Nat} {W : List (Int × Int)} (h : RowRep w S base N g W) (hN : N ≤ 1000000000) :
    Calls Try.prog 71 #[.pointer (some ⟨g, 0, none⟩)] w fun r w' => r = .returned (.tuple #[]) ∧ RowRep w' S base N g W ∧ Fr S w w' := by
  have hh := h
  obtain ⟨hg, hS, L, k, m, A, n, c, f, hm, hB, hR, hk, hL, hW, hM, hf, hok, hnd⟩ := h
  have hn : n = L.length := (Kd.R_reads' hR).1
  have hnc : n ≤ c := (Kd.R_reads' hR).2.1
  have c0 := hB.cell 0
  have c1 := hB.cell 1
  have c2 := hB.cell 2
  have f0 := hB.frozen 0
  have f1 := hB.frozen 1
  simp only [List.getElem?_toArray, List.getElem?_cons_zero, List.getElem?_cons_succ] at c0 c1 c2
  obtain ⟨i0, hi, hz0, hz1, hz2⟩ := info_parts info_id
  have b1 : n ≤ 1000000000 := by omega
  have b2 : k ≤ n := by omega
  have hgm := hM.ne_blk hB
  have HB := Lib.hid hB
  have HR := Lib.hid hR
  have HM := Lib.hid hM
  have HS := Lib.hid hS
  have HL := Lib.hid hL
  have HN := Lib.hid hn
  have HF := Lib.hid hf
  have HW := Lib.hid hW
  have HH := Lib.hid hh
  clear hB hR hM hS hL hn hf hW hh hok hnd hk
  rcases Nat.lt_or_ge k n with hlt | hge
  · by_cases hhalf : n / 2 < k
    · have t1 : ((k : Int) == (n : Int)) = false := by simp; omega
      have t2 : decide ((n : Int) / 2 < (k : Int)) = true := by simp; omega
      obtain ⟨q, hq⟩ : ∃ q, q = n - k := ⟨_, rfl⟩
      have hcut := cut_from (P := Try.prog) 26 28 .i64 Try.underlying26 hi 2 hz1 A n c (k : Int) (by omega) (by omega)
      have hcut2 := cut_to (P := Try.prog) 26 28 .i64 Try.underlying26 hi A n c (q : Int) (by omega) (by omega) hnc
      simp only [Int.toNat_natCast, ← hq] at hcut hcut2
      obtain ⟨St, hSt⟩ : ∃ St : World → Prop, St = fun w' => w'.heap[g]? = w.heap[g]? := ⟨_, rfl⟩
      have HS0 : ∀ w' : World, w'.heap = w.heap → At St w' := fun w' h => by unfold At; rw [hSt]; show w'.heap[g]? = _; rw [h]
      have kc0 : ∀ w', At St w' → w'.cell? ⟨g, 0, none⟩ = some (.slice A n c) := fun w' h => by
        replace h := h.out; rw [hSt] at h; exact (World.cell?_of_block (a := ⟨g, 0, none⟩) h).trans c0
      have kc1 : ∀ w', At St w' → w'.cell? ⟨g, 1, none⟩ = some (.int .i64 k) := fun w' h => by
        replace h := h.out; rw [hSt] at h; exact (World.cell?_of_block (a := ⟨g, 1, none⟩) h).trans c1
      have hsh := fun (w' : World) (h : idK.R 28 w' base S (.slice A n c) L) => R_shift h (k := k) (by have := HN.out; omega) 26 26 3 Try.underlying26 (by kernel_rfl)
      simp only [← hq] at hsh
      have hT2 : ∀ w' w3 : World, w'.heap = w.heap → Fr (fun b => some b = (Value.slice A n c).ownBlock) w' w3 → At St w3 := fun w' w3 h hF => by
        unfold At; rw [hSt]; show w3.heap[g]? = _
        rw [hF.block g (by rw [h]; exact HB.out.lt) (Kd.R_ne HR.out HB.out (by decide)), h]
      replace hsh := Lib.hid hsh
      replace hT2 := Lib.hid hT2
      clear hSt
      replace hq := Lib.hid hq
      replace hhalf := Lib.hid hhalf
      go_enter Try.func71, Try.ntmps71
      go_wp2
      go_quiet (fail)
      revert nq; intro n1
      go_wp2
      go_quiet (fail)
      go_wp2
      refine rs_start 15 (At St) 15 (by kernel_rfl) rfl ?_
      refine rs_take 0 (v := ?_) rfl (by kernel_rfl) (by kernel_rfl) (by kernel_rfl) (by kernel_rfl) (fun _ _ _ h => h) (by rfl) (by first | assumption | exact HS0 _ rfl) ?_ ?_
      rotate_left 1
      · intro w hSw; go_simp <;> with_reducible rfl
      try simp only [Act.put, List.setIfInBounds_toArray, List.set_cons_zero, List.set_cons_succ]
      refine rs_take 1 (v := ?_) rfl (by kernel_rfl) (by kernel_rfl) (by kernel_rfl) (by kernel_rfl) (fun _ _ _ h => h) (by rfl) (by first | assumption | exact HS0 _ rfl) ?_ ?_
      rotate_left 1
      · intro w hSw; go_simp <;> with_reducible rfl
      try simp only [Act.put, List.setIfInBounds_toArray, List.set_cons_zero, List.set_cons_succ]
      refine rs_take 2 (v := ?_) rfl (by kernel_rfl) (by kernel_rfl) (by kernel_rfl) (by kernel_rfl) (fun _ _ _ h => h) (by rfl) (by first | assumption | exact HS0 _ rfl) ?_ ?_
      rotate_left 1
      · intro w hSw; go_simp <;> with_reducible rfl
      try simp only [Act.put, List.setIfInBounds_toArray, List.set_cons_zero, List.set_cons_succ]
      refine rs_take 3 (v := ?_) rfl (by kernel_rfl) (by kernel_rfl) (by kernel_rfl) (by kernel_rfl) (fun _ _ _ h => h) (by rfl) (by first | assumption | exact HS0 _ rfl) ?_ ?_
      rotate_left 1
      · intro w hSw; go_simp <;> with_reducible rfl
      try simp only [Act.put, List.setIfInBounds_toArray, List.set_cons_zero, List.set_cons_succ]
      refine rs_take 4 (v := ?_) rfl (by kernel_rfl) (by kernel_rfl) (by kernel_rfl) (by kernel_rfl) (fun _ _ _ h => h) (by rfl) (by first | assumption | exact HS0 _ rfl) ?_ ?_
      rotate_left 1
      · intro w hSw; go_simp <;> with_reducible rfl
      try simp only [Act.put, List.setIfInBounds_toArray, List.set_cons_zero, List.set_cons_succ]
      refine rs_take 5 (v := ?_) rfl (by kernel_rfl) (by kernel_rfl) (by kernel_rfl) (by kernel_rfl) (fun _ _ _ h => h) (by rfl) (by first | assumption | exact HS0 _ rfl) ?_ ?_
      rotate_left 1
      · intro w hSw; go_simp <;> with_reducible rfl
      try simp only [Act.put, List.setIfInBounds_toArray, List.set_cons_zero, List.set_cons_succ]
      refine rs_take 6 (v := ?_) rfl (by kernel_rfl) (by kernel_rfl) (by kernel_rfl) (by kernel_rfl) (fun _ _ _ h => h) (by rfl) (by first | assumption | exact HS0 _ rfl) ?_ ?_
      rotate_left 1
      · intro w hSw; go_simp <;> with_reducible rfl
      try simp only [Act.put, List.setIfInBounds_toArray, List.set_cons_zero, List.set_cons_succ]
      refine rs_take 7 (v := ?_) rfl (by kernel_rfl) (by kernel_rfl) (by kernel_rfl) (by kernel_rfl) (fun _ _ _ h => h) (by rfl) (by first | assumption | exact HS0 _ rfl) ?_ ?_
      rotate_left 1
      · intro w hSw; go_simp <;> with_reducible rfl
      try simp only [Act.put, List.setIfInBounds_toArray, List.set_cons_zero, List.set_cons_succ]
      refine rs_take 8 (v := ?_) rfl (by kernel_rfl) (by kernel_rfl) (by kernel_rfl) (by kernel_rfl) (fun _ _ _ h => h) (by rfl) (by first | assumption | exact HS0 _ rfl) ?_ ?_
      rotate_left 1
      · intro w hSw; go_simp <;> with_reducible rfl
      try simp only [Act.put, List.setIfInBounds_toArray, List.set_cons_zero, List.set_cons_succ]
      refine rs_take 9 (v := ?_) rfl (by kernel_rfl) (by kernel_rfl) (by kernel_rfl) (by kernel_rfl) (fun _ _ _ h => h) (by rfl) (by first | assumption | exact HS0 _ rfl) ?_ ?_
      rotate_left 1
      · intro w hSw; go_simp <;> with_reducible rfl
      try simp only [Act.put, List.setIfInBounds_toArray, List.set_cons_zero, List.set_cons_succ]
      refine rs_take 10 (v := ?_) rfl (by kernel_rfl) (by kernel_rfl) (by kernel_rfl) (by kernel_rfl) (fun _ _ _ h => h) (by rfl) (by first | assumption | exact HS0 _ rfl) ?_ ?_
      rotate_left 1
      · intro w hSw; go_simp <;> with_reducible rfl
      try simp only [Act.put, List.setIfInBounds_toArray, List.set_cons_zero, List.set_cons_succ]
      refine rs_take 11 (v := ?_) rfl (by kernel_rfl) (by kernel_rfl) (by kernel_rfl) (by kernel_rfl) (fun _ _ _ h => h) (by rfl) (by first | assumption | exact HS0 _ rfl) ?_ ?_
      rotate_left 1
      · intro w hSw; go_simp <;> with_reducible rfl
      try simp only [Act.put, List.setIfInBounds_toArray, List.set_cons_zero, List.set_cons_succ]
      refine rs_take 12 (v := ?_) rfl (by kernel_rfl) (by kernel_rfl) (by kernel_rfl) (by kernel_rfl) (fun _ _ _ h => h) (by rfl) (by first | assumption | exact HS0 _ rfl) ?_ ?_
      rotate_left 1
      · intro w hSw; go_simp <;> with_reducible rfl
      try simp only [Act.put, List.setIfInBounds_toArray, List.set_cons_zero, List.set_cons_succ]
      refine rs_one 13 rfl (by kernel_rfl) (fun K hK => ?_)
      obtain ⟨w3, hc, hR3, hF3⟩ := hsh.out _ (Kd.R_drew (Kd.R_drewN (Kd.R_drewN HR.out n1) nq))
      have hT3 := hT2.out ((w.drewN n1).drewN nq).drew w3 rfl hF3
      refine step_builtin2 rfl rfl rfl rfl (bi_copy hc) ?_
      refine hK.out (At St) _ _ (fun _ h => h) (fun _ => by (exact hT3)) ?_
      clear hK K
      try simp only [Act.put, List.setIfInBounds_toArray, List.set_cons_zero, List.set_cons_succ]
      refine rs_take 14 (v := ?_) rfl (by kernel_rfl) (by kernel_rfl) (by kernel_rfl) (by kernel_rfl) (fun _ _ _ h => h) (by rfl) (by first | assumption | exact HS0 _ rfl) ?_ ?_
      rotate_left 1
      · intro w hSw; go_simp <;> with_reducible rfl
      try simp only [Act.put, List.setIfInBounds_toArray, List.set_cons_zero, List.set_cons_succ]
      refine rs_done (by kernel_rfl) ?_
      have HB3 : Blk w3 g 105 #[.slice A n c, .int .i64 k, .map (some m)] := ((HB.out.drewN n1).drewN nq).drew.fr hF3 (Kd.R_ne HR.out HB.out (by decide))
      have d0 := HB3.cell 0
      have g0 := HB3.frozen 0
      have g1 := HB3.frozen 1
      have d1 := HB3.cell 1
      simp only [List.getElem?_toArray, List.getElem?_cons_zero, List.getElem?_cons_succ] at d0 d1
      have HB3' := Lib.hid HB3
      have HR3 := Lib.hid hR3
      have HF3 := Lib.hid hF3
      clear HS0 kc0 kc1 c0 c1 f0 f1 c2 HB3 hR3 hF3 hc hT3 hcut
      go_wp2
      go_end0
      all_goals
        obtain ⟨_, _, _, _, _, _, _, _, _, _, _, _, _, _, _, _, _, hok, hnd⟩ := HH.out
        have hgv : some g ≠ (Value.slice A n c).ownBlock := Kd.R_ne HR.out HB.out (by decide)
        have hF0 : Fr S w w3 := (((Fr.refl S w).drewN n1).drewN nq).drew.trans' HF3.out (fun i _ h => HR.out.1 i h.symm)
        have hM3 : MapAs idE Value.bool w3 m f := HM.out.block ((HF3.out.block m HM.out.lt (by
          obtain ⟨es, clock, hb⟩ := HM.out.at_
          exact R_map_ne HR.out hb)))
        have hR5 := Kd.R_set (Kd.R_set HR3.out HB3'.out (by decide) 0 (.slice A q c)) (HB3'.out.set_ 0 (.slice A q c)) (by decide) 1 (.int .i64 0)
        refine ⟨rfl, ⟨hg, ?_, L.drop k, 0, m, A, q, c, f, hm, (HB3'.out.set_ 0 _).set_ 1 _, hR5, by simp, by rw [List.length_drop]; have := HL.out; omega, by rw [List.drop_zero]; exact HW.out, (hM3.far (p := ⟨g, 0, none⟩) (Ne.symm hgm) _).far (p := ⟨g, 1, none⟩) (Ne.symm hgm) _, HF.out, hok, hnd⟩,
          (hF0.setCell (p := ⟨g, 0, none⟩) (.inl hg) _).setCell (p := ⟨g, 1, none⟩) (.inl hg) _⟩
        intro b hb
        have h1 := HS.out b hb
        have h2 := hF0.size
        simp [World.setCell]
        omega
    · have t1 : ((k : Int) == (n : Int)) = false := by simp; omega
      have t2 : decide ((n : Int) / 2 < (k : Int)) = false := by simp; omega
      go_enter Try.func71, Try.ntmps71
      go_wp2
      go_quiet (fail)
      go_wp2
      go_quiet (fail)
      go_wp2
      go_end0
      exact ⟨rfl, HH.out.fr (((Fr.refl (fun _ => False) _).drewN _).drewN _) (fun _ _ _ h => h), ((Fr.refl _ _).drewN _).drewN _⟩
  · have hkn : k = n := by omega
    have t1 : ((k : Int) == (n : Int)) = true := by simp; omega
    have hr0 := cut_to (P := Try.prog) 26 28 .i64 Try.underlying26 hi A n c 0 (by omega) (by omega) hnc
    simp only [Int.toNat_zero] at hr0
    have hkn' := Lib.hid hkn
    clear hkn
    go_enter Try.func71, Try.ntmps71
    go_wp2
    go_quiet (fail)
    go_wp2_with fail
    have hB1 := (HB.out.drewN nq).set_ 0 (.slice A 0 c)
    have hB2 := hB1.set_ 1 (.int .i64 0)
    have hM3 := ((HM.out.fr (w' := w.drewN nq) ((Fr.refl (fun _ => False) _).drewN _) (fun h => h)).far (p := ⟨g, 0, none⟩) (Ne.symm hgm) (.slice A 0 c)).far (p := ⟨g, 1, none⟩) (Ne.symm hgm) (.int .i64 0)
    obtain ⟨w2, hc, hM2, hF2, hz2⟩ := hM3.clear Try.underlying103 (ty := 0)
    rw [hc]
    have HC := Lib.hid hz2
    have HM2 := Lib.hid hM2
    have HF2 := Lib.hid hF2
    clear hc hz2 hM2 hF2
    go_wp2
    refine bodyPost_ret (results_none Try.results71 _ _ _) rfl ?_
    have hR0 : idK.R 28 (w.drewN nq) base S (.slice A 0 c) (L.take 0) := Kd.R_take (Kd.R_drewN HR.out nq) (Nat.zero_le _)
    have hR2 := Kd.R_set (Kd.R_set hR0 (HB.out.drewN nq) (by decide) 0 (.slice A 0 c)) hB1 (by decide) 1 (.int .i64 0)
    obtain ⟨es, clock, hb⟩ := hM3.at_
    have hR3 := R_pass hR2 HF2.out hb
    have hW0 : W = [] := by have e1 := hkn'.out; have e2 := HN.out; rw [HW.out, List.drop_eq_nil_of_le (by omega)]
    have hF3 : Fr S w (((w.drewN nq).setCell ⟨g, 0, none⟩ (.slice A 0 c)).setCell ⟨g, 1, none⟩ (.int .i64 0)) := (((Fr.refl _ _).drewN _).setCell (p := ⟨g, 0, none⟩) (.inl hg) _).setCell (p := ⟨g, 1, none⟩) (.inl hg) _
    refine ⟨rfl, ⟨hg, ?_, [], 0, m, A, 0, c, _, hm, hB2.fr HF2.out hgm, by simpa using hR3, by simp, by simp, by simp [hW0], HM2.out, ?_, ?_, ?_⟩, hF3.trans' HF2.out (fun i _ h => by rw [h]; exact hm)⟩
    · intro b hb
      have := HS.out b hb
      rw [HC.out]
      simp [World.setCell]
      exact this
    · intro b _
      simp [hW0]
    · simp [hW0]
    · simp [hW0]
end Go.Proofs.Ytlpigldogglmcaa
