/- digest.Seal, digest.cut, digest.Open and its deferred closure. -/
import Derived.Test.YtlpigldogglmcaaDigW
import Derived.Test.YtlpigldogglmcaaWireM
import Derived.WalkSmall
import Derived.Defers
import Derived.Recover
set_option linter.unusedVariables false
set_option linter.unusedSimpArgs false
namespace Go.Proofs.Ytlpigldogglmcaa
open Go.RowKit
open Go.Proofs.YtlpigldogglmcaaW.PrintWords

set_option maxRecDepth 100000 in
theorem dig_seal (A : Option Addr) (xs : List Int) (c : Nat) (w : World) (hc : xs.length ≤ c) (hr : RdB w A xs) (hx : Byt xs) (hl : xs.length ≤ 140737488355300) :
    Calls Try.prog 28 #[.slice A xs.length c] w fun r w' => ∃ v, r = .returned v ∧ OwB w' w.heap.size v (xs ++ be8 (dOf xs)) ∧ Fr (fun _ => False) w w' := by
  go_enter Try.func28, Try.ntmps28
  go_wp2_with fail
  refine (dig_of A xs c _ hr hx (by omega)).mono ?_
  rintro r w1 ⟨rfl, rfl⟩
  go_wp2_with fail
  refine (wire_eight A xs c (dOf xs) _ hc hr hl (dOf_lt xs)).mono ?_
  rintro r w2 ⟨v, rfl, ho, hF⟩
  go_wp2_with fail
  go_ret
  exact ⟨_, rfl, ho, hF⟩

set_option maxRecDepth 100000 in
theorem dig_cut_no (A : Option Addr) (n c : Nat) (w : World) (hl : n < 8) :
    Calls Try.prog 73 #[.slice A n c] w fun r w' => r = .panicked [{ v := .iface 107 (.agg #[.int .i64 n]), recovered := false }] ∧ w = w' := by
  go_enter Try.func73, Try.ntmps73
  go_wp2_with fail
  exact ⟨rfl, rfl, rfl⟩

set_option maxRecDepth 100000 in
theorem dig_cut (A : Option Addr) (xs : List Int) (c m : Nat) (w : World) (hm : xs.length = m + 8) (hc : xs.length ≤ c) (hr : RdB w A xs) (hx : Byt xs) (hl : xs.length ≤ 140737488355328) :
    Calls Try.prog 73 #[.slice A xs.length c] w fun r w' => r = .returned (.tuple #[.slice A m c, .int .u64 (beVal (xs.drop m))]) ∧ w = w' := by
  have hsub : (xs.length : Int) - 8 = (m : Int) := by omega
  have h8 : 8 ≤ xs.length := by omega
  obtain ⟨A', ys, hcut, hys⟩ := cut_from8 A c xs m (by omega) hc
  obtain ⟨zs, hcut2, hzs⟩ := cut_to8 A c xs m (by omega) hc
  have hzl := hzs.out.2.1
  rw [hzl] at hcut2
  have hyl : ys.length = 8 := by rw [hys.out.1, List.length_drop]; omega
  have hby : Byt ys := by rw [hys.out.1]; exact fun x h => hx x (List.mem_of_mem_drop h)
  have HG := Lib.hid (wire_getEight A' ys (c - m) w (hys.out.2.2 w hr) hby (by omega) hys.out.2.1 (by omega))
  have hv : beVal (ys.take 8) = beVal (xs.drop m) := by rw [← hyl, List.take_length, hys.out.1]
  rw [hv] at HG
  clear hys hzs hzl hyl hby hv hr hx hm
  go_enter Try.func73, Try.ntmps73
  go_wp2_with fail
  refine HG.out.mono ?_
  rintro r w1 ⟨rfl, rfl⟩
  go_wp2_with fail
  go_ret2
  exact ⟨rfl, rfl⟩

/-- What Open hands back: the bytes and what is wrong. -/
def openR (xs : List Int) : List Int × Int :=
  if xs.length < 8 then ([], 4) else if dOf (xs.take (xs.length - 8)) = beVal (xs.drop (xs.length - 8)) then (xs.take (xs.length - 8), 0) else ([], 21)

theorem short_is (n : Int) (w : World) : (Instr.typeAssert (.iface 107 (.agg #[.int .i64 n])) 20 107 true).run Try.prog w = .ok (.tuple #[.agg #[.int .i64 n], .bool true]) w := by kernel_rfl
theorem short_no (w : World) : (Instr.typeAssert .nilIface 20 107 true).run Try.prog w = .ok (.tuple #[.agg #[.int .i64 0], .bool false]) w := by kernel_rfl
set_option maxRecDepth 100000 in
theorem catch_short (p q : Addr) (x y : Value) (n : Int) (older : List PanicEntry) (w : World) (hp : w.cell? p = some x) (hq : w.cell? q = some y) (hpz : w.frozen? p = false) (hqz : w.frozen? q = false) (hpl : p.block < w.heap.size) (hne : p ≠ q) :
    CallsD Try.prog 72 #[.pointer (some p), .pointer (some q)] (.panicking ({ v := .iface 107 (.agg #[.int .i64 n]), recovered := false } :: older)) w fun e u' w' =>
      e = .returned (.tuple #[]) ∧ u' = .panicking ({ v := .iface 107 (.agg #[.int .i64 n]), recovered := true } :: older) ∧
      w' = ((w.alloc (.cells #[.int .i64 n] 107)).setCell p (.slice none 0 0)).setCell q (.int .i64 4) := by
  refine callsD_of_wpS Try.func72 rfl fun c₀ cs hu => ?_
  apply wpS_seq
  apply wpS_region
  have hr : Array.replicate 8 undef = #[undef, undef, undef, undef, undef, undef, undef, undef] := rfl
  have ha := short_is n
  simp [wpOpsS, go_sem, recoverD, hu, Try.ntmps72, Exit.thenS, hr, ha]
  have hp1 : (w.alloc (.cells #[.int .i64 n] 107)).cell? p = some x := (World.cell?_alloc_lt _ _ _ hpl).trans hp
  have hq1 : ((w.alloc (.cells #[.int .i64 n] 107)).setCell p (.slice none 0 0)).cell? q = some y := by
    rw [World.cell?_setCell_other _ _ _ _ hne]
    exact (World.cell?_alloc_lt _ _ _ (World.block_lt_of_cell? w q hq)).trans hq
  have hz1 : (w.alloc (.cells #[.int .i64 n] 107)).frozen? p = false := by
    have := Below.heap_alloc w (.cells #[.int .i64 n] 107) p.block hpl
    unfold World.frozen? at hpz ⊢
    rw [this]; exact hpz
  have hz2 : ((w.alloc (.cells #[.int .i64 n] 107)).setCell p (.slice none 0 0)).frozen? q = false := by
    rw [World.frozen?_setCell]
    have := Below.heap_alloc w (.cells #[.int .i64 n] 107) q.block (World.block_lt_of_cell? w q hq)
    unfold World.frozen? at hqz ⊢
    rw [this]; exact hqz
  generalize w.alloc (.cells #[.int .i64 n] 107) = w1 at *
  apply wpS_seq
  apply wpS_region
  simp [wpOpsS, go_sem, Exit.thenS]
  refine wpS_cond (t := true) (by simp [Act.eval]) ?_
  simp only [if_true]
  apply wpS_region
  simp [wpOpsS, go_sem, hp1, hq1, hz1, hz2, bodyPostS, results, Try.results72]

set_option maxRecDepth 100000 in
theorem catch_none (p q : Addr) (w : World) :
    CallsD Try.prog 72 #[.pointer (some p), .pointer (some q)] .returning w fun e u' w' =>
      e = .returned (.tuple #[]) ∧ u' = .returning ∧ w' = w.alloc (.cells #[.int .i64 0] 107) := by
  refine callsD_of_wpS Try.func72 rfl fun c₀ cs hu => ?_
  apply wpS_seq
  apply wpS_region
  have hr : Array.replicate 8 undef = #[undef, undef, undef, undef, undef, undef, undef, undef] := rfl
  have ha := short_no
  simp [wpOpsS, go_sem, recoverD, hu, Try.ntmps72, Exit.thenS, hr, ha]
  apply wpS_seq
  apply wpS_region
  simp [wpOpsS, go_sem, Exit.thenS]
  refine wpS_cond (t := false) (by simp [Act.eval]) ?_
  simp only [Bool.false_eq_true, if_false]
  refine wpS_of_wp (wp_skip ?_)
  cases c₀
  simp_all [bodyPostS, results, Try.results72]

set_option maxRecDepth 100000 in
theorem dig_open_short (A : Option Addr) (n c : Nat) (w : World) (hl : n < 8) :
    Calls Try.prog 25 #[.slice A n c] w fun r w' => r = .returned (.tuple #[.slice none 0 0, .int .i64 4]) ∧ Fr (fun _ => False) w w' := by
  have hmf : ∀ (fn : Fn) (first cap : Array Value) (w : World), (Instr.makeFunc fn first cap).run Try.prog w = .ok (.func fn first cap) w := fun _ _ _ _ => rfl
  go_enter_defers Try.func25, Try.ntmps25
  go_wp2_with fail
  refine (dig_cut_no A n c _ hl).mono ?_
  rintro r w1 ⟨rfl, rfl⟩
  go_wp2_with fail
  have b0 : Blk (w.alloc (.cells #[.slice none 0 0] 39)) w.heap.size 39 #[.slice none 0 0] := Blk.new _ _ _
  have b1 : Blk ((w.alloc (.cells #[.slice none 0 0] 39)).alloc (.cells #[.int .i64 0] 41)) (w.heap.size + 1) 41 #[.int .i64 0] := by
    have := Blk.new (w.alloc (.cells #[.slice none 0 0] 39)) 41 #[.int .i64 0]
    simpa using this
  replace b0 := b0.alloc (.cells #[.int .i64 0] 41)
  have F0 : Fr (fun _ => False) w ((w.alloc (.cells #[.slice none 0 0] 39)).alloc (.cells #[.int .i64 0] 41)) := ((Fr.refl _ _).alloc _).alloc _
  generalize (w.alloc (.cells #[.slice none 0 0] 39)).alloc (.cells #[.int .i64 0] 41) = wa at *
  refine leaves_cons (f := 72) (args := #[.pointer (some ⟨w.heap.size, 0, none⟩), .pointer (some ⟨w.heap.size + 1, 0, none⟩)]) (by simp) (by simp [go_sem]) ?_
  have hne : (⟨w.heap.size, 0, none⟩ : Addr) ≠ ⟨w.heap.size + 1, 0, none⟩ := by simp
  refine (catch_short ⟨w.heap.size, 0, none⟩ ⟨w.heap.size + 1, 0, none⟩ (.slice none 0 0) (.int .i64 0) _ [] wa (b0.cell 0) (b1.cell 0) (b0.frozen 0) (b1.frozen 0) b0.lt hne).mono ?_
  rintro e u' w'' ⟨rfl, rfl, rfl⟩
  have c1 : (((wa.alloc (.cells #[.int .i64 n] 107)).setCell ⟨w.heap.size, 0, none⟩ (.slice none 0 0)).setCell ⟨w.heap.size + 1, 0, none⟩ (.int .i64 4)).cell? ⟨w.heap.size, 0, none⟩ = some (.slice none 0 0) :=
    (((b0.alloc _).set_ 0 _).far (by simp) _).cell 0
  have c2 : (((wa.alloc (.cells #[.int .i64 n] 107)).setCell ⟨w.heap.size, 0, none⟩ (.slice none 0 0)).setCell ⟨w.heap.size + 1, 0, none⟩ (.int .i64 4)).cell? ⟨w.heap.size + 1, 0, none⟩ = some (.int .i64 4) :=
    (((b1.alloc _).far (by simp) _).set_ 0 _).cell 0
  have F1 : Fr (fun _ => False) w (((wa.alloc (.cells #[.int .i64 n] 107)).setCell ⟨w.heap.size, 0, none⟩ (.slice none 0 0)).setCell ⟨w.heap.size + 1, 0, none⟩ (.int .i64 4)) :=
    ((F0.alloc _).setCell (.inr (Nat.le_refl _)) _).setCell (.inr (by simp)) _
  generalize ((wa.alloc (.cells #[.int .i64 n] 107)).setCell ⟨w.heap.size, 0, none⟩ (.slice none 0 0)).setCell ⟨w.heap.size + 1, 0, none⟩ (.int .i64 4) = wz at *
  simp [Leaves, settle, results, Try.results25, go_sem, c1, c2]
  exact F1
set_option maxRecDepth 100000 in
theorem dig_open_sum (A : Option Addr) (xs : List Int) (c m : Nat) (w : World) (hm : xs.length = m + 8) (hc : xs.length ≤ c) (hr : RdB w A xs) (hx : Byt xs) (hl : xs.length ≤ 140737488355328) (hd : dOf (xs.take m) ≠ beVal (xs.drop m)) :
    Calls Try.prog 25 #[.slice A xs.length c] w fun r w' => r = .returned (.tuple #[.slice none 0 0, .int .i64 21]) ∧ Fr (fun _ => False) w w' := by
  have hmf : ∀ (fn : Fn) (first cap : Array Value) (w : World), (Instr.makeFunc fn first cap).run Try.prog w = .ok (.func fn first cap) w := fun _ _ _ _ => rfl
  have hlt : (xs.take m).length = m := by rw [List.length_take]; omega
  have HR0 : ∀ w', RdB w' A xs → Hid (RdB w' A (xs.take m)) := by
    obtain ⟨zs, _, hzs⟩ := cut_to8 A c xs m (by omega) hc
    intro w' h
    have := hzs.out.2.2 w' h
    rw [hzs.out.1] at this
    exact this
  have hxt : Byt (xs.take m) := fun x h => hx x (List.mem_of_mem_take h)
  have HM := Lib.hid hm
  have hml : m ≤ 140737488355328 := by omega
  clear hm
  go_enter_defers Try.func25, Try.ntmps25
  go_wp2_with fail
  have b0 : Blk (w.alloc (.cells #[.slice none 0 0] 39)) w.heap.size 39 #[.slice none 0 0] := Blk.new _ _ _
  have b1 : Blk ((w.alloc (.cells #[.slice none 0 0] 39)).alloc (.cells #[.int .i64 0] 41)) (w.heap.size + 1) 41 #[.int .i64 0] := by
    have := Blk.new (w.alloc (.cells #[.slice none 0 0] 39)) 41 #[.int .i64 0]
    simpa using this
  replace b0 := b0.alloc (.cells #[.int .i64 0] 41)
  have F0 : Fr (fun _ => False) w ((w.alloc (.cells #[.slice none 0 0] 39)).alloc (.cells #[.int .i64 0] 41)) := ((Fr.refl _ _).alloc _).alloc _
  have hra := hr.fr F0 (fun _ _ h => h)
  have HC := Lib.hid (dig_cut A xs c m _ HM.out hc hra hx hl)
  have HD := Lib.hid (dig_of A (xs.take m) c _ (HR0 _ hra).out hxt (by rw [hlt]; exact hml))
  rw [hlt] at HD
  generalize (w.alloc (.cells #[.slice none 0 0] 39)).alloc (.cells #[.int .i64 0] 41) = wa at *
  refine HC.out.mono ?_
  rintro r w1 ⟨rfl, rfl⟩
  generalize hgd : dOf (xs.take m) = d at HD hd
  generalize beVal (xs.drop m) = e at hd HC
  go_wp2_with fail
  refine HD.out.mono ?_
  rintro r w1 ⟨rfl, rfl⟩
  have hd' : ¬ ((d : Int) = (e : Int)) := by omega
  have z0 := b0.frozen 0
  have z1 := b1.frozen 0
  have y0 := b0.cell 0
  have y1 := (b1.far (p := ⟨w.heap.size, 0, none⟩) (by simp) (.slice none 0 0)).cell 0
  have z2 := (b1.far (p := ⟨w.heap.size, 0, none⟩) (by simp) (.slice none 0 0)).frozen 0
  go_wp2_with fail
  refine leaves_cons (f := 72) (args := #[.pointer (some ⟨w.heap.size, 0, none⟩), .pointer (some ⟨w.heap.size + 1, 0, none⟩)]) (by simp) (by simp [go_sem]) ?_
  refine (catch_none ⟨w.heap.size, 0, none⟩ ⟨w.heap.size + 1, 0, none⟩ _).mono ?_
  rintro e u' w'' ⟨rfl, rfl, rfl⟩
  have c1 : (((wa.setCell ⟨w.heap.size, 0, none⟩ (.slice none 0 0)).setCell ⟨w.heap.size + 1, 0, none⟩ (.int .i64 21)).alloc (.cells #[.int .i64 0] 107)).cell? ⟨w.heap.size, 0, none⟩ = some (.slice none 0 0) := (((b0.set_ 0 _).far (by simp) _).alloc _).cell 0
  have c2 : (((wa.setCell ⟨w.heap.size, 0, none⟩ (.slice none 0 0)).setCell ⟨w.heap.size + 1, 0, none⟩ (.int .i64 21)).alloc (.cells #[.int .i64 0] 107)).cell? ⟨w.heap.size + 1, 0, none⟩ = some (.int .i64 21) := (((b1.far (by simp) _).set_ 0 _).alloc _).cell 0
  have F1 : Fr (fun _ => False) w (((wa.setCell ⟨w.heap.size, 0, none⟩ (.slice none 0 0)).setCell ⟨w.heap.size + 1, 0, none⟩ (.int .i64 21)).alloc (.cells #[.int .i64 0] 107)) := ((F0.setCell (.inr (Nat.le_refl _)) _).setCell (.inr (by simp)) _).alloc _
  generalize (((wa.setCell ⟨w.heap.size, 0, none⟩ (.slice none 0 0)).setCell ⟨w.heap.size + 1, 0, none⟩ (.int .i64 21)).alloc (.cells #[.int .i64 0] 107)) = wz at *
  simp [Leaves, settle, results, Try.results25, go_sem, c1, c2]
  exact F1

set_option maxRecDepth 100000 in
theorem dig_open_ok (A : Option Addr) (xs : List Int) (c m : Nat) (w : World) (hm : xs.length = m + 8) (hc : xs.length ≤ c) (hr : RdB w A xs) (hx : Byt xs) (hl : xs.length ≤ 140737488355328) (hd : dOf (xs.take m) = beVal (xs.drop m)) :
    Calls Try.prog 25 #[.slice A xs.length c] w fun r w' => ∃ v, r = .returned (.tuple #[v, .int .i64 0]) ∧ OwB w' w.heap.size v (xs.take m) ∧ Fr (fun _ => False) w w' := by
  have hmf : ∀ (fn : Fn) (first cap : Array Value) (w : World), (Instr.makeFunc fn first cap).run Try.prog w = .ok (.func fn first cap) w := fun _ _ _ _ => rfl
  have hlt : (xs.take m).length = m := by rw [List.length_take]; omega
  have HR0 : ∀ w', RdB w' A xs → Hid (RdB w' A (xs.take m)) := by
    obtain ⟨zs, _, hzs⟩ := cut_to8 A c xs m (by omega) hc
    intro w' h
    have := hzs.out.2.2 w' h
    rw [hzs.out.1] at this
    exact this
  have hxt : Byt (xs.take m) := fun x h => hx x (List.mem_of_mem_take h)
  have HM := Lib.hid hm
  have hml : m ≤ 140737488355328 := by omega
  clear hm
  go_enter_defers Try.func25, Try.ntmps25
  go_wp2_with fail
  have b0 : Blk (w.alloc (.cells #[.slice none 0 0] 39)) w.heap.size 39 #[.slice none 0 0] := Blk.new _ _ _
  have b1 : Blk ((w.alloc (.cells #[.slice none 0 0] 39)).alloc (.cells #[.int .i64 0] 41)) (w.heap.size + 1) 41 #[.int .i64 0] := by
    have := Blk.new (w.alloc (.cells #[.slice none 0 0] 39)) 41 #[.int .i64 0]
    simpa using this
  replace b0 := b0.alloc (.cells #[.int .i64 0] 41)
  have F0 : Fr (fun _ => False) w ((w.alloc (.cells #[.slice none 0 0] 39)).alloc (.cells #[.int .i64 0] 41)) := ((Fr.refl _ _).alloc _).alloc _
  have hra := hr.fr F0 (fun _ _ h => h)
  have HC := Lib.hid (dig_cut A xs c m _ HM.out hc hra hx hl)
  have HD := Lib.hid (dig_of A (xs.take m) c _ (HR0 _ hra).out hxt (by rw [hlt]; exact hml))
  rw [hlt] at HD
  generalize (w.alloc (.cells #[.slice none 0 0] 39)).alloc (.cells #[.int .i64 0] 41) = wa at *
  have hr0 := (HR0 _ (hra.fr ((Fr.refl (fun _ => False) wa).alloc (.cells #[] 5)) (fun _ _ h => h))).out
  have ho0 := ow_lit0 wa
  have hs0 : wa.heap.size ≤ (wa.alloc (.cells #[] 5)).heap.size := ((Fr.refl (fun _ => False) wa).alloc _).size
  have hsa := F0.size
  have hl1 := b1.lt
  clear HR0 hr hx hra
  obtain ⟨ys, hys⟩ : ∃ ys, Hid (xs.take m = ys) := ⟨_, rfl⟩
  rw [hys.out] at hlt hxt HD hd hr0
  subst hlt
  have hb1 : ([] : List Int).length + ys.length ≤ 140737488355328 := by simp; omega
  refine HC.out.mono ?_
  rintro r w1 ⟨rfl, rfl⟩
  generalize hgd : dOf ys = d at HD hd
  generalize beVal (xs.drop ys.length) = e at hd HC
  subst hd
  go_wp2_with fail
  refine HD.out.mono ?_
  rintro r w1 ⟨rfl, rfl⟩
  go_wp2_with (at_builtin; go_must (refine append8_mine wa.heap.size rfl _ _ rfl (.slice (some ⟨wa.heap.size, 0, none⟩) 0 0) [] ys A c rfl rfl ho0 hr0 hs0 hb1 ?_); intro v1 w1 hown hF; simp only [List.nil_append] at hown; obtain ⟨A1, cc, rfl, _⟩ := hown.reads; have d0 := (b0.alloc (.cells #[] 5)).fr hF (fun h => by simp [Value.ownBlock] at h; omega); have d1 := (b1.alloc (.cells #[] 5)).fr hF (fun h => by simp [Value.ownBlock] at h; omega); have z0 := d0.frozen 0; have z1 := d1.frozen 0; have y0 := d0.cell 0; have y1 := (d1.far (p := ⟨w.heap.size, 0, none⟩) (by simp) (.slice A1 ys.length cc)).cell 0; have z2 := (d1.far (p := ⟨w.heap.size, 0, none⟩) (by simp) (.slice A1 ys.length cc)).frozen 0)
  refine leaves_cons (f := 72) (args := #[.pointer (some ⟨w.heap.size, 0, none⟩), .pointer (some ⟨w.heap.size + 1, 0, none⟩)]) (by simp) (by simp [go_sem]) ?_
  refine (catch_none ⟨w.heap.size, 0, none⟩ ⟨w.heap.size + 1, 0, none⟩ _).mono ?_
  rintro e u' w'' ⟨rfl, rfl, rfl⟩
  have c1 : (((w1.setCell ⟨w.heap.size, 0, none⟩ (.slice A1 ys.length cc)).setCell ⟨w.heap.size + 1, 0, none⟩ (.int .i64 0)).alloc (.cells #[.int .i64 0] 107)).cell? ⟨w.heap.size, 0, none⟩ = some (.slice A1 ys.length cc) := (((d0.set_ 0 _).far (by simp) _).alloc _).cell 0
  have c2 : (((w1.setCell ⟨w.heap.size, 0, none⟩ (.slice A1 ys.length cc)).setCell ⟨w.heap.size + 1, 0, none⟩ (.int .i64 0)).alloc (.cells #[.int .i64 0] 107)).cell? ⟨w.heap.size + 1, 0, none⟩ = some (.int .i64 0) := (((d1.far (by simp) _).set_ 0 _).alloc _).cell 0
  have F2 : Fr (fun _ => False) w w1 := (F0.alloc _).trans' hF (fun i hi h => by simp [Value.ownBlock] at h; omega)
  have F1 : Fr (fun _ => False) w (((w1.setCell ⟨w.heap.size, 0, none⟩ (.slice A1 ys.length cc)).setCell ⟨w.heap.size + 1, 0, none⟩ (.int .i64 0)).alloc (.cells #[.int .i64 0] 107)) := ((F2.setCell (.inr (Nat.le_refl _)) _).setCell (.inr (by simp)) _).alloc _
  have hs1 := hF.size
  have OO : OwB (((w1.setCell ⟨w.heap.size, 0, none⟩ (.slice A1 ys.length cc)).setCell ⟨w.heap.size + 1, 0, none⟩ (.int .i64 0)).alloc (.cells #[.int .i64 0] 107)) w.heap.size (.slice A1 ys.length cc) (xs.take ys.length) := by
    rw [hys.out]
    refine OwB.lower (B := wa.heap.size) (OwB.fr (S := fun k => k < wa.heap.size) hown (((Fr.refl _ _).setCell (.inl (by show w.heap.size < wa.heap.size; omega)) _).setCell (.inl (by show w.heap.size + 1 < wa.heap.size; omega)) _ |>.alloc _) (fun k hB _ hk => by have : k < wa.heap.size := hk; omega)) hsa
  generalize (((w1.setCell ⟨w.heap.size, 0, none⟩ (.slice A1 ys.length cc)).setCell ⟨w.heap.size + 1, 0, none⟩ (.int .i64 0)).alloc (.cells #[.int .i64 0] 107)) = wz at *
  simp [Leaves, settle, results, Try.results25, go_sem, c1, c2]
  exact ⟨OO, F1⟩
end Go.Proofs.Ytlpigldogglmcaa
