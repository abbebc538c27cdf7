/- Rows of ids (package roots): what each method does. -/
import Derived.Test.YtlpigldogglmcaaIds
import Derived.Test.YtlpigldogglmcaaMapG
import Derived.Test.YtlpigldogglmcaaCopy
import Derived.Deep.QuietTactic
import Derived.BigQuiet
import Derived.Test.YtlpigldogglmcaaReg2
set_option linter.unusedVariables false
set_option linter.unusedSimpArgs false
namespace Go.Proofs.Ytlpigldogglmcaa
open Go.RowKit
open Go.Proofs.YtlpigldogglmcaaW.PrintWords

theorem id_law : WideMaps.KeyLaw Try.prog 28 := deep_law (m := 3) (by omega) (by kernel_rfl) (by kernel_rfl) (by kernel_rfl)
theorem id_key {a : Int × Int} (h : IdOk a) : ∃ l, keyOf Try.prog 28 (idV a) = some l := by
  have ht := Try.underlying28
  have hi := Try.underlying3
  have k1 : Try.prog.keyType 28 = true := by kernel_rfl
  have k2 : (idV a).formed Try.prog 28 = true := by simp [Value.formed, ht]; kernel_rfl
  have step : ∀ n, 1 < n → ∃ l, Try.prog.keyLits n 28 (idV a).cells.toList = some l := by
    intro n hn
    obtain ⟨m, rfl⟩ : ∃ m, n = m + 2 := ⟨n - 2, by omega⟩
    have hc : Try.prog.cellsOf 28 = 2 := by kernel_rfl
    have hc1 : Try.prog.cellsOf 3 = 1 := by kernel_rfl
    simp [Program.keyLits, ht, hi, hc, hc1, Value.cells, h.1, h.2]
  obtain ⟨l, hl⟩ := step (Try.prog.types.size + 1) (by have : 0 < Try.prog.types.size := of_decide_eq_true (by kernel_rfl)
                                                       omega)
  unfold keyOf
  rw [ht]
  simp only [k1, k2, Bool.and_self, if_true, hl]
  exact ⟨_, rfl⟩
theorem idV_inj {a b : Int × Int} (h : idV a = idV b) : a = b := by
  injection h with h
  injection h with h
  injection h with h1 h2
  injection h2 with h2 _
  injection h1 with _ h1
  injection h2 with _ h2
  exact Prod.ext h1 h2
def idE : KEnc Try.prog 28 (Int × Int) := { enc := idV, ok := IdOk, law := Maps.Keyed.of_law id_law, key := id_key, inj := idV_inj }

theorem R_pass {α : Type} {d : Kd α} {e : Nat} {w w1 : World} {base : Nat} {ok : Nat → Prop} {v : Value} {xs : List α} (h : d.R e w base ok v xs) {m : Nat} (hF : Fr (· = m) w w1)
    {es : Array MapEntry} {clock : Nat} (hm : w.heap[m]? = some (.map es clock)) : d.R e w1 base ok v xs :=
  Kd.R_mono (Kd.R_move (Kd.R_bound h) (fun k hk => hF.block k hk.2.2.1 (by
    rintro rfl
    obtain ⟨_, _, _, q, _, cells, hc⟩ := hk
    rw [hm] at hc
    injection hc with hc
    cases hc))) (fun _ hk => hk.1)
theorem R_map_ne {α : Type} {d : Kd α} {e : Nat} {w : World} {base : Nat} {ok : Nat → Prop} {v : Value} {xs : List α} (h : d.R e w base ok v xs) {m : Nat}
    {es : Array MapEntry} {clock : Nat} (hm : w.heap[m]? = some (.map es clock)) : some m ≠ v.ownBlock := fun he => by
  obtain ⟨cells, hc⟩ := Kd.R_typed h m he.symm
  rw [hm] at hc
  injection hc with hc
  cases hc
theorem MapAs.at_ {P : Program} {kt : TypeId} {κ β : Type} {K : KEnc P kt κ} {venc : β → Value} {w : World} {m : Nat} {f : κ → Option β} (h : MapAs K venc w m f) : ∃ es clock, w.heap[m]? = some (.map es clock) := by
  obtain ⟨es, clock, h, _⟩ := h
  exact ⟨es, clock, h⟩
/-- Block g is a row in which just W stands; its blocks are of S. -/
def RowRep (w : World) (S : Nat → Prop) (base N : Nat) (g : Nat) (W : List (Int × Int)) : Prop :=
  S g ∧ (∀ k, S k → base ≤ k ∧ k < w.heap.size) ∧ ∃ (L : List (Int × Int)) (k m : Nat) (A : Option Addr) (n c : Nat) (f : Int × Int → Option Bool),
    S m ∧ Blk w g 105 #[.slice A n c, .int .i64 k, .map (some m)] ∧ idK.R 28 w base S (.slice A n c) L ∧ k ≤ L.length ∧ L.length ≤ N ∧ W = L.drop k ∧
    MapAs idE Value.bool w m f ∧ (∀ a, IdOk a → (f a).getD false = decide (a ∈ W)) ∧ (∀ a ∈ W, IdOk a) ∧ W.Nodup
theorem elim_bool (o : Option Bool) : o.elim (Value.bool false) Value.bool = .bool (o.getD false) := by cases o <;> rfl
theorem zero_bool (w : World) : (zeroValue 4).run Try.prog w = .ok (.bool false) w := by kernel_rfl

set_option maxHeartbeats 400000 in
theorem row_len {w : World} {S : Nat → Prop} {base N g : Nat} {W : List (Int × Int)} (h : RowRep w S base N g W) (hN : N ≤ 1000000000) :
    Calls Try.prog 20 #[.pointer (some ⟨g, 0, none⟩)] w fun r w' => r = .returned (.int .i64 W.length) ∧ Fr (fun _ => False) w w' := by
  obtain ⟨hg, hS, L, k, m, A, n, c, f, hm, hB, hR, hk, hL, hW, hM, hf, hok, hnd⟩ := h
  have hn : n = L.length := (Kd.R_reads' hR).1
  have hl : (W.length : Int) = (n : Int) - k := by rw [hW, List.length_drop]; omega
  have c0 := hB.cell 0
  have c1 := hB.cell 1
  simp only [List.getElem?_toArray, List.getElem?_cons_zero, List.getElem?_cons_succ] at c0 c1
  have b1 : n ≤ 1000000000 := by omega
  have b2 : k ≤ n := by omega
  rw [hl]
  clear hl hW hn hS hR hM hB hL hf
  go_enter Try.func20, Try.ntmps20
  go_wp2
  go_quiet (fail)
  go_wp2
  go_ret
  exact ⟨rfl, (Fr.refl _ _).drewN _⟩
set_option maxHeartbeats 400000 in
theorem row_has {w : World} {S : Nat → Prop} {base N g : Nat} {W : List (Int × Int)} (h : RowRep w S base N g W) (a : Int × Int) (ha : IdOk a) :
    Calls Try.prog 23 #[.pointer (some ⟨g, 0, none⟩), idV a] w fun r w' => r = .returned (.bool (decide (a ∈ W))) ∧ Fr (fun _ => False) w w' := by
  obtain ⟨hg, hS, L, k, m, A, n, c, f, hm, hB, hR, hk, hL, hW, hM, hf, hok, hnd⟩ := h
  have hB1 := hB.alloc (.cells #[.int .i64 a.1, .int .i64 a.2] 28)
  have c2 := hB1.cell 2
  simp only [List.getElem?_toArray, List.getElem?_cons_zero, List.getElem?_cons_succ] at c2
  have hlook : ∀ q : Nat, (Instr.lookup 103 (.map (some m)) (.agg #[.int .i64 a.1, .int .i64 a.2]) false).run Try.prog ((w.alloc (.cells #[.int .i64 a.1, .int .i64 a.2] 28)).drewN q) = .ok (((f a).elim (Value.bool false) Value.bool)) ((w.alloc (.cells #[.int .i64 a.1, .int .i64 a.2] 28)).drewN q) := fun q : Nat => ((hM.alloc (.cells #[.int .i64 a.1, .int .i64 a.2] 28)).fr (w' := (w.alloc (.cells #[.int .i64 a.1, .int .i64 a.2] 28)).drewN q) ((Fr.refl (fun _ => False) _).drewN q) (fun h => h)).lookup Try.underlying103 (zero_bool _) (a := a) ha
  simp only [elim_bool, hf a ha] at hlook
  clear hS hR hM hB hB1 hL hf hW
  go_enter Try.func23, Try.ntmps23
  go_wp2
  go_quiet (fail)
  go_wp2
  go_ret
  exact ⟨rfl, ((Fr.refl _ _).alloc _).drewN _⟩
set_option maxHeartbeats 1000000 in
theorem row_push_no {w : World} {S : Nat → Prop} {base N g : Nat} {W : List (Int × Int)} (h : RowRep w S base N g W) (a : Int × Int) (ha : IdOk a) (hin : a ∈ W) :
    Calls Try.prog 19 #[.pointer (some ⟨g, 0, none⟩), idV a] w fun r w' => r = .returned (.bool false) ∧ Fr (fun _ => False) w w' := by
  obtain ⟨hg, hS, L, k, m, A, n, c, f, hm, hB, hR, hk, hL, hW, hM, hf, hok, hnd⟩ := h
  have hB1 := hB.alloc (.cells #[.int .i64 a.1, .int .i64 a.2] 28)
  have c2 := hB1.cell 2
  simp only [List.getElem?_toArray, List.getElem?_cons_zero, List.getElem?_cons_succ] at c2
  have hlook : ∀ q : Nat, (Instr.lookup 103 (.map (some m)) (.agg #[.int .i64 a.1, .int .i64 a.2]) false).run Try.prog ((w.alloc (.cells #[.int .i64 a.1, .int .i64 a.2] 28)).drewN q) = .ok (.bool true) ((w.alloc (.cells #[.int .i64 a.1, .int .i64 a.2] 28)).drewN q) := fun q : Nat => by
    have := ((hM.alloc (.cells #[.int .i64 a.1, .int .i64 a.2] 28)).fr (w' := (w.alloc (.cells #[.int .i64 a.1, .int .i64 a.2] 28)).drewN q) ((Fr.refl (fun _ => False) _).drewN q) (fun h => h)).lookup Try.underlying103 (zero_bool _) (a := a) ha
    rw [elim_bool, hf a ha, decide_eq_true hin] at this
    exact this
  clear hS hR hM hB hB1 hL hf hW
  go_enter Try.func19, Try.ntmps19
  go_wp2
  go_quiet (fail)
  go_wp2
  go_ret
  exact ⟨rfl, ((Fr.refl _ _).alloc _).drewN _⟩
set_option maxRecDepth 100000 in
set_option maxHeartbeats 1000000 in
theorem row_push_yes {w : World} {S : Nat → Prop} {base N g : Nat} {W : List (Int × Int)} (h : RowRep w S base N g W) (a : Int × Int) (ha : IdOk a) (hin : ¬ a ∈ W) (hN : N ≤ 1000000000) :
    Calls Try.prog 19 #[.pointer (some ⟨g, 0, none⟩), idV a] w fun r w' => r = .returned (.bool true) ∧ ∃ S', RowRep w' S' base (N + 1) g (W ++ [a]) ∧ Fr S w w' ∧ (∀ k, S' k → S k ∨ w.heap.size ≤ k) := by
  obtain ⟨hg, hS, L, k, m, A, n, c, f, hm, hB, hR, hk, hL, hW, hM, hf, hok, hnd⟩ := h
  have hn : n = L.length := (Kd.R_reads' hR).1
  have hgm := hM.ne_blk hB
  have hxm : w.heap.size ≠ m := fun e => by have := (hS m hm).2; omega
  have hgx : g < w.heap.size := (hS g hg).2
  have hbx : base ≤ w.heap.size := by have := (hS g hg).1; omega
  have hsl : ∀ b, (Value.slice A n c).ownBlock = some b → S b := hR.1
  have hB1 := hB.alloc (.cells #[.int .i64 a.1, .int .i64 a.2] 28)
  have hM1 := hM.alloc (.cells #[.int .i64 a.1, .int .i64 a.2] 28)
  have hX1 := Blk.new w 28 #[.int .i64 a.1, .int .i64 a.2]
  have hR1 := Kd.R_alloc hR (.cells #[.int .i64 a.1, .int .i64 a.2] 28)
  have hF1 := (Fr.refl S w).alloc (.cells #[.int .i64 a.1, .int .i64 a.2] 28)
  have hlook : ∀ q : Nat, (Instr.lookup 103 (.map (some m)) (.agg #[.int .i64 a.1, .int .i64 a.2]) false).run Try.prog ((w.alloc (.cells #[.int .i64 a.1, .int .i64 a.2] 28)).drewN q) = .ok (.bool false) ((w.alloc (.cells #[.int .i64 a.1, .int .i64 a.2] 28)).drewN q) := fun q : Nat => by
    have := (hM1.fr (w' := (w.alloc (.cells #[.int .i64 a.1, .int .i64 a.2] 28)).drewN q) ((Fr.refl (fun _ => False) _).drewN q) (fun h => h)).lookup Try.underlying103 (zero_bool _) (a := a) ha
    rw [elim_bool, hf a ha, decide_eq_false hin] at this
    exact this
  have hupd := fun q : Nat => (hM1.fr (w' := (w.alloc (.cells #[.int .i64 a.1, .int .i64 a.2] 28)).drewN q) ((Fr.refl (fun _ => False) _).drewN q) (fun h => h)).update Try.underlying103 (a := a) ha true
  have c2 := hB1.cell 2
  simp only [List.getElem?_toArray, List.getElem?_cons_zero, List.getElem?_cons_succ] at c2
  have HU := Lib.hid hupd
  have HF := Lib.hid hf
  have HR := Lib.hid hR1
  have HB := Lib.hid hB1
  have HX := Lib.hid hX1
  have HS := Lib.hid hS
  have HH := Lib.hid hF1
  have HL := Lib.hid hL
  have HW := Lib.hid hW
  have HM := Lib.hid hM1
  have HSL := Lib.hid hsl
  have Hxm := Lib.hid hxm
  clear hR hM hB hB1 hL hf hW hM1 hR1 hX1 hS hF1 hupd hn hsl hxm
  go_enter Try.func19, Try.ntmps19
  go_wp2
  go_quiet (fail)
  go_wp2
  generalize hwA : w.alloc (.cells #[.int .i64 a.1, .int .i64 a.2] 28) = wA at *
  have hxA : w.heap.size < wA.heap.size := by rw [← hwA]; simp
  replace hwA := Lib.hid hwA
  generalize hxe : w.heap.size = x at *
  replace hxe := Lib.hid hxe
  obtain ⟨w2, hu, hM2, hF2, hz2⟩ := HU.out (nq + 1)
  clear HU
  replace hu : (Instr.mapUpdate 103 (.map (some m)) (.agg #[.int .i64 a.1, .int .i64 a.2]) (.bool true)).run Try.prog (wA.drewN (nq + 1)) = .ok () w2 := hu
  obtain ⟨Sr, hSr⟩ : ∃ Sr : World → Prop, Sr = Fr (fun _ => False) wA := ⟨_, rfl⟩
  have hS0 : At Sr (wA.drewN nq).drew := by unfold At; rw [hSr]; exact ((Fr.refl _ _).drewN _).drew
  have kc2 : ∀ w', At Sr w' → w'.cell? ⟨g, 2, none⟩ = some (.map (some m)) := fun w' h => by replace h := h.out; rw [hSr] at h; exact h.cell c2 (fun h => h)
  have kx0 : ∀ w', At Sr w' → w'.cell? ⟨x, 0, none⟩ = some (.int .i64 a.1) := fun w' h => by replace h := h.out; rw [hSr] at h; exact h.cell (HX.out.cell 0) (fun h => h)
  have kx1 : ∀ w', At Sr w' → w'.cell? ⟨x, 1, none⟩ = some (.int .i64 a.2) := fun w' h => by replace h := h.out; rw [hSr] at h; exact h.cell (HX.out.cell 1) (fun h => h)
  clear hSr
  refine rs_start 5 (At Sr) 6 (by kernel_rfl) rfl ?_
  refine rs_take 0 (v := ?_) rfl (by kernel_rfl) (by kernel_rfl) (by kernel_rfl) (by kernel_rfl) (fun _ _ _ h => h) (by rfl) (by first | assumption | exact HS0 _ rfl) ?_ ?_
  rotate_left 1
  · intro w hSw; go_simp <;> with_reducible rfl
  try simp only [Act.put, List.setIfInBounds_toArray, List.set_cons_zero, List.set_cons_succ]
  refine rs_take 1 (v := ?_) rfl (by kernel_rfl) (by kernel_rfl) (by kernel_rfl) (by kernel_rfl) (fun _ _ _ h => h) (by rfl) (by first | assumption | exact HS0 _ rfl) ?_ ?_
  rotate_left 1
  · intro w hSw; go_simp <;> with_reducible rfl
  try simp only [Act.put, List.setIfInBounds_toArray, List.set_cons_zero, List.set_cons_succ]
  refine rs_take 2 (v := ?_) rfl (by kernel_rfl) (by kernel_rfl) (by kernel_rfl) (by kernel_rfl) (fun _ _ _ h => h) (by rfl) (by first | assumption | exact HS0 _ rfl) ?_ ?_
  rotate_left 1
  · intro w hSw; go_simp <;> with_reducible rfl
  try simp only [Act.put, List.setIfInBounds_toArray, List.set_cons_zero, List.set_cons_succ]
  refine rs_take 3 (v := ?_) rfl (by kernel_rfl) (by kernel_rfl) (by kernel_rfl) (by kernel_rfl) (fun _ _ _ h => h) (by rfl) (by first | assumption | exact HS0 _ rfl) ?_ ?_
  rotate_left 1
  · intro w hSw; go_simp <;> with_reducible rfl
  try simp only [Act.put, List.setIfInBounds_toArray, List.set_cons_zero, List.set_cons_succ]
  refine rs_take 4 (v := ?_) rfl (by kernel_rfl) (by kernel_rfl) (by kernel_rfl) (by kernel_rfl) (fun _ _ _ h => h) (by rfl) (by first | assumption | exact HS0 _ rfl) ?_ ?_
  rotate_left 1
  · intro w hSw; go_simp <;> with_reducible rfl
  try simp only [Act.put, List.setIfInBounds_toArray, List.set_cons_zero, List.set_cons_succ]
  refine rs_one 5 rfl (by kernel_rfl) (fun K hK => ?_)
  go_simp
  refine hK.out (At Sr) _ _ (fun _ h => h) (fun h => absurd rfl h) ?_
  clear hK K
  try simp only [Act.put, List.setIfInBounds_toArray, List.set_cons_zero, List.set_cons_succ]
  refine rs_done (by kernel_rfl) ?_
  clear hS0 kc2 kx0 kx1 c2 hlook hu
  have hFm : Fr (· = m) wA w2 := ⟨hF2.os, hF2.tape, hF2.output, hF2.size, hF2.block⟩
  have HB2 := HB.out.fr hFm hgm
  have HX2 := HX.out.fr hFm Hxm.out
  have HR2 : idK.R 28 w2 base S (.slice A n c) L := by
    obtain ⟨es, clock, hb⟩ := HM.out.at_
    exact R_pass HR.out hFm hb
  have hz3 : w2.heap.size = wA.heap.size := hz2
  have HF2 : Fr S w w2 := HH.out.trans' hFm (fun i _ h => by rw [h]; exact hm)
  have HM2 := Lib.hid hM2
  have c0 := HB2.cell 0
  have f0 := HB2.frozen 0
  have x0 := HX2.cell 0
  have x1 := HX2.cell 1
  simp only [List.getElem?_toArray, List.getElem?_cons_zero, List.getElem?_cons_succ] at c0 x0 x1
  obtain ⟨St, hSt⟩ : ∃ St : World → Prop, St = fun w' => w'.heap[g]? = w2.heap[g]? ∧ w'.heap[x]? = w2.heap[x]? := ⟨_, rfl⟩
  have hg2 : g < w2.heap.size := HB2.lt
  have hx2 : x < w2.heap.size := HX2.lt
  have hT0 : At St w2.drew := by unfold At; rw [hSt]; exact ⟨rfl, rfl⟩
  have kc0 : ∀ w', At St w' → w'.cell? ⟨g, 0, none⟩ = some (.slice A n c) := fun w' h => by
    replace h := h.out; rw [hSt] at h; exact (World.cell?_of_block (a := ⟨g, 0, none⟩) h.1).trans c0
  have kx0 : ∀ w', At St w' → w'.cell? ⟨x, 0, none⟩ = some (.int .i64 a.1) := fun w' h => by
    replace h := h.out; rw [hSt] at h; exact (World.cell?_of_block (a := ⟨x, 0, none⟩) h.2).trans x0
  have kx1 : ∀ w', At St w' → w'.cell? ⟨x, 1, none⟩ = some (.int .i64 a.2) := fun w' h => by
    replace h := h.out; rw [hSt] at h; exact (World.cell?_of_block (a := ⟨x, 1, none⟩) h.2).trans x1
  have hT1 : At St (w2.drew.alloc (.cells #[.int .i64 a.1, .int .i64 a.2] 28)) := by
    unfold At; rw [hSt]; exact ⟨Below.heap_alloc w2.drew _ g hg2, Below.heap_alloc w2.drew _ x hx2⟩
  have hT2 : ∀ w3, w2.drew.grownBy w3 (Value.slice A n c).ownBlock → At St w3 := fun w3 h => by
    unfold At; rw [hSt]
    exact ⟨h.block g hg2 (Kd.R_ne HR2 HB2 (by decide)), h.block x hx2 (fun e => by have := (HS.out x (HSL.out x e.symm)).2; omega)⟩
  have HT2 := Lib.hid hT2
  have HBB := Lib.hid HB2
  have HRR := Lib.hid HR2
  have HFF := Lib.hid HF2
  clear hSt hT2 HB2 HX2 HR2 HF2 c0 x0 x1 hM2 hF2 hFm hz2 hz3 hgm HX HH HM HB HR
  go_wp2
  refine rs_start 10 (At St) 11 (by kernel_rfl) rfl ?_
  refine rs_take 0 (v := ?_) rfl (by kernel_rfl) (by kernel_rfl) (by kernel_rfl) (by kernel_rfl) (fun _ _ _ h => h) (by rfl) (by first | assumption | exact HS0 _ rfl) ?_ ?_
  rotate_left 1
  · intro w hSw; go_simp <;> with_reducible rfl
  try simp only [Act.put, List.setIfInBounds_toArray, List.set_cons_zero, List.set_cons_succ]
  refine rs_take 1 (v := ?_) rfl (by kernel_rfl) (by kernel_rfl) (by kernel_rfl) (by kernel_rfl) (fun _ _ _ h => h) (by rfl) (by first | assumption | exact HS0 _ rfl) ?_ ?_
  rotate_left 1
  · intro w hSw; go_simp <;> with_reducible rfl
  try simp only [Act.put, List.setIfInBounds_toArray, List.set_cons_zero, List.set_cons_succ]
  refine rs_take 2 (v := ?_) rfl (by kernel_rfl) (by kernel_rfl) (by kernel_rfl) (by kernel_rfl) (fun _ _ _ h => h) (by rfl) (by first | assumption | exact HS0 _ rfl) ?_ ?_
  rotate_left 1
  · intro w hSw; go_simp <;> with_reducible rfl
  try simp only [Act.put, List.setIfInBounds_toArray, List.set_cons_zero, List.set_cons_succ]
  refine rs_take 3 (v := ?_) rfl (by kernel_rfl) (by kernel_rfl) (by kernel_rfl) (by kernel_rfl) (fun _ _ _ h => h) (by rfl) (by first | assumption | exact HS0 _ rfl) ?_ ?_
  rotate_left 1
  · intro w hSw; go_simp <;> with_reducible rfl
  try simp only [Act.put, List.setIfInBounds_toArray, List.set_cons_zero, List.set_cons_succ]
  refine rs_take 4 (v := ?_) rfl (by kernel_rfl) (by kernel_rfl) (by kernel_rfl) (by kernel_rfl) (fun _ _ _ h => h) (by rfl) (by first | assumption | exact HS0 _ rfl) ?_ ?_
  rotate_left 1
  · intro w hSw; go_simp <;> with_reducible rfl
  try simp only [Act.put, List.setIfInBounds_toArray, List.set_cons_zero, List.set_cons_succ]
  refine rs_take 5 (v := ?_) rfl (by kernel_rfl) (by kernel_rfl) (by kernel_rfl) (by kernel_rfl) (fun _ _ _ h => h) (by rfl) (by first | assumption | exact HS0 _ rfl) ?_ ?_
  rotate_left 1
  · intro w hSw; go_simp <;> with_reducible rfl
  try simp only [Act.put, List.setIfInBounds_toArray, List.set_cons_zero, List.set_cons_succ]
  refine rs_one 6 rfl (by kernel_rfl) (fun K hK => ?_)
  go_simp
  refine hK.out (At St) _ _ (fun _ h => h) (fun _ => by (first | assumption | (apply keepS; assumption))) ?_
  clear hK K
  try simp only [Act.put, List.setIfInBounds_toArray, List.set_cons_zero, List.set_cons_succ]
  refine rs_one 7 rfl (by kernel_rfl) (fun K hK => ?_)
  refine Kd.R_append_step idK base rfl (.tmp 24) (.tmp 26) 26 28 _ 16 rfl Try.underlying26 info_id rfl (by decide) (by decide) (.slice A n c) L a [.int .i64 a.1, .int .i64 a.2] (fun b => S b ∨ x ≤ b) (fun _ => False) (by rfl) (by rfl) (idK_M _ _ _ _) (fun _ h => h.elim) (fun b hb => .inr (by simp at hb; omega)) (Kd.R_mono (Kd.R_drew HRR.out) (fun _ h => .inl h)) (Below.refl _ _) (by simp; omega) (by have := HL.out; omega) ?_
  intro v1 w3 hR3 hB3 hg3 hat3
  obtain ⟨A1, c1, rfl⟩ := Kd.R_slice hR3
  have hT3 := HT2.out w3 hg3
  have c3 := kc0 w3 hT3
  have f3 : w3.frozen? ⟨g, 0, none⟩ = false := (World.frozen?_of_block (a := ⟨g, 0, none⟩) (hg3.block g hg2 (Kd.R_ne HRR.out HBB.out (by decide)))).trans f0
  refine hK.out (At St) _ _ (fun _ h => h) (fun _ => by (exact HT2.out w3 hg3)) ?_
  clear hK K
  try simp only [Act.put, List.setIfInBounds_toArray, List.set_cons_zero, List.set_cons_succ]
  refine rs_one 8 rfl (by kernel_rfl) (fun K hK => ?_)
  go_simp
  refine hK.out (At St) _ _ (fun _ h => h) (fun _ => by (first | assumption | (apply keepS; assumption))) ?_
  clear hK K
  try simp only [Act.put, List.setIfInBounds_toArray, List.set_cons_zero, List.set_cons_succ]
  refine rs_take 9 (v := ?_) rfl (by kernel_rfl) (by kernel_rfl) (by kernel_rfl) (by kernel_rfl) (fun _ _ _ h => h) (by rfl) (by first | assumption | exact HS0 _ rfl) ?_ ?_
  rotate_left 1
  · intro w hSw; go_simp <;> with_reducible rfl
  try simp only [Act.put, List.setIfInBounds_toArray, List.set_cons_zero, List.set_cons_succ]
  refine rs_one 10 rfl (by kernel_rfl) (fun K hK => ?_)
  go_simp
  refine hK.out (At St) _ _ (fun _ h => h) (fun h => absurd rfl h) ?_
  clear hK K
  try simp only [Act.put, List.setIfInBounds_toArray, List.set_cons_zero, List.set_cons_succ]
  refine rs_done (by kernel_rfl) ?_
  clear hT0 kc0 kx0 kx1 hT1 hT3
  go_wp2
  go_ret
  have hz3 : w2.heap.size ≤ w3.heap.size := hg3.size
  have hxe' : w.heap.size = x := hxe.out
  have hF3 : Fr (fun b => some b = (Value.slice A n c).ownBlock) w2 w3 := Fr.of_grown ⟨hg3.os, hg3.tape, hg3.output, hg3.size, hg3.block⟩
  have hgv : some g ≠ (Value.slice A n c).ownBlock := Kd.R_ne HRR.out HBB.out (by decide)
  have HB3 := HBB.out.fr hF3 hgv
  have HM3 := HM2.out.fr hF3 (by
    obtain ⟨es, clock, hb⟩ := HM2.out.at_
    exact R_map_ne HRR.out hb)
  have hgm : g ≠ m := HM2.out.ne_blk HBB.out
  refine ⟨rfl, fun b => S b ∨ (x ≤ b ∧ b < w3.heap.size), ⟨.inl hg, ?_, L ++ [a], k, m, A1, _, c1, _, .inl hm, HB3.set_ 0 _, ?_, ?_, ?_, ?_, HM3.far (fun e => hgm e.symm) _, ?_, ?_, ?_⟩, ?_, ?_⟩
  · rintro b (hb | hb)
    · have := HS.out b hb
      simp [World.setCell]
      omega
    · simp [World.setCell]
      omega
  · rw [show L.length + 1 = (L ++ [a]).length by simp]
    refine Kd.R_set (Kd.R_mono (Kd.R_bound hR3) ?_) HB3 (by decide) 0 _
    rintro b ⟨hb | hb, _, hlt, _⟩
    · exact .inl hb
    · exact .inr ⟨hb, hlt⟩
  · rw [List.length_append]; omega
  · rw [List.length_append]; have := HL.out; simp; omega
  · rw [HW.out, List.drop_append_of_le_length hk]
  · intro b hb
    by_cases hba : b = a
    · subst hba
      simp
    · have := HF.out b hb
      simp [hba, this]
  · intro b hb
    rcases List.mem_append.1 hb with hb | hb
    · exact hok b hb
    · rw [List.mem_singleton.1 hb]; exact ha
  · rw [List.nodup_append]
    exact ⟨hnd, by simp, fun b hb c hc => by rw [List.mem_singleton.1 hc]; rintro rfl; exact hin hb⟩
  · exact (HFF.out.trans' hF3 (fun i _ h => HSL.out i h.symm)).setCell (p := ⟨g, 0, none⟩) (.inl hg) _
  · rintro b (hb | hb)
    · exact .inl hb
    · exact .inr (by omega)
end Go.Proofs.Ytlpigldogglmcaa
