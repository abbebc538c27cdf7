/- Texts of Cod, merged (12 of 27): DigW, WireM, DigO, DigP. -/
import Derived.Test.YtelfpnpplknlpaaGCod2
import Derived.Laws.BitsAllLaws
import Derived.Deep.RegionHeld3
import Derived.WalkSmall
import Derived.Defers
import Derived.Recover
import Derived.Test.YtelfpnpplknlpaaGCod8
set_option linter.unusedVariables false
set_option linter.unusedSimpArgs false
/- Digests: what they compute (plain), and the functions digest.Of, digest.Mix, digest.Seal and the document's Of, each walked once. -/
namespace Go.Proofs.Ytelfpnpplknlpaa
open Go.RowKit
open Go.Proofs.YtelfpnpplknlpaaW.PrintWords

/-- One round of the digest. -/
def fnv1 (h x : Nat) : Nat := (h ^^^ x) * 1099511628211 % 18446744073709551616
def fnv (h : Nat) : List Int → Nat
  | [] => h
  | x :: xs => fnv (fnv1 h x.toNat) xs
def dOf (xs : List Int) : Nat := fnv 14695981039346656037 xs
theorem fnv1_lt (h x : Nat) : fnv1 h x < 18446744073709551616 := Nat.mod_lt _ (by omega)
theorem fnv_lt : ∀ (xs : List Int) (h : Nat), h < 18446744073709551616 → fnv h xs < 18446744073709551616
  | [], h, hh => hh
  | x :: xs, h, _ => fnv_lt xs _ (fnv1_lt h _)
theorem dOf_lt (xs : List Int) : dOf xs < 18446744073709551616 := fnv_lt xs _ (by omega)
theorem fnv_append (xs ys : List Int) : ∀ h, fnv h (xs ++ ys) = fnv (fnv h xs) ys := by
  induction xs with
  | nil => intro h; rfl
  | cons x xs ih => intro h; exact ih _

theorem xor_u64 (h x : Nat) (hh : h < 18446744073709551616) (hx : x < 18446744073709551616) : bits .xor .u64 (h : Int) (x : Int) = ((h ^^^ x : Nat) : Int) := u64_xor_nat h x hh hx
theorem mul_u64 (n : Nat) : IntKind.u64.wrap ((n : Int) * 1099511628211) = ((n * 1099511628211 % 18446744073709551616 : Nat) : Int) := by
  simp [IntKind.wrap, IntKind.bits, IntKind.signed]
theorem fnv_step (h : Nat) (x : Int) (hh : h < 18446744073709551616) (h0 : 0 ≤ x) (h1 : x ≤ 255) :
    IntKind.u64.wrap (bits .xor .u64 (h : Int) x * 1099511628211) = ((fnv1 h x.toNat : Nat) : Int) := by
  have e : x = ((x.toNat : Nat) : Int) := by omega
  rw [e, xor_u64 h x.toNat hh (by omega), mul_u64]
  rfl
theorem and255 (n : Nat) (hn : n < 18446744073709551616) : bits .and .u64 (n : Int) 255 = ((n % 256 : Nat) : Int) := by
  have h := u64_and_nat n 255 hn (by omega)
  rw [show (255 : Nat) = 2 ^ 8 - 1 from rfl, Nat.and_two_pow_sub_one_eq_mod] at h
  exact h
set_option maxRecDepth 100000 in
theorem dig_of (A : Option Addr) (xs : List Int) (c : Nat) (w : World) (hr : RdB w A xs) (hx : Byt xs) (hl : xs.length ≤ 140737488355328) :
    Calls Try.prog 39 #[.slice A xs.length c] w fun r w' => r = .returned (.int .u64 (dOf xs)) ∧ w = w' := by
  go_enter Try.func39, Try.ntmps39
  go_wp2_with fail
  go_loop [3, 8] (fun n i => ∃ (k q : Nat), k ≤ xs.length ∧ i = .int .i64 k ∧ n = .int .u64 q ∧ Hid (q < 18446744073709551616 ∧ fnv q (xs.drop k) = dOf xs)) (fun _ i => xs.length - (intOf i).toNat)
  case atStart => exact ⟨0, 14695981039346656037, by omega, rfl, rfl, ⟨by omega, rfl⟩⟩
  case round =>
    obtain ⟨k, q, hk, rfl, rfl, hrel⟩ := hrel
    rcases Nat.lt_or_ge k xs.length with hlt | hge
    · obtain ⟨bb, off, rfl, hc⟩ := RdB.at_ hr hlt
      obtain ⟨h0, h1⟩ := hx _ (rd_mem hlt)
      obtain ⟨hq, he⟩ := hrel.out
      rw [drop_rd hlt] at he
      have HE := Lib.hid he
      have hst := fnv_step q _ hq h0 h1
      clear he hq hrel hx hr
      generalize rd xs ↑k = b at *
      generalize hg : fnv1 q b.toNat = q' at *
      have HG := Lib.hid hg
      clear hg
      go_wp2_with fail
      exact ⟨⟨k + 1, q', by omega, by simp, rfl, by rw [← HG.out]; exact fnv1_lt _ _, by have := HE.out; rw [← HG.out]; exact this⟩, by simp [intOf]; omega⟩
    · obtain rfl : k = xs.length := by omega
      go_wp2_with fail
      go_ret
      obtain ⟨hq, he⟩ := hrel.out
      rw [List.drop_length] at he
      rw [← he]
      exact ⟨rfl, rfl⟩

set_option maxRecDepth 100000 in
theorem ref_of (A : Option Addr) (xs : List Int) (c : Nat) (w : World) (hr : RdB w A xs) (hx : Byt xs) (hl : xs.length ≤ 140737488355328) :
    Calls Try.prog 8 #[.slice A xs.length c] w fun r w' => r = .returned (.int .u64 (dOf xs)) ∧ w = w' := by
  go_enter Try.func8, Try.ntmps8
  go_wp2_with fail
  go_loop [3, 4] (fun n i => ∃ (k q : Nat), k ≤ xs.length ∧ i = .int .i64 k ∧ n = .int .u64 q ∧ Hid (q < 18446744073709551616 ∧ fnv q (xs.drop k) = dOf xs)) (fun _ i => xs.length - (intOf i).toNat)
  case atStart => exact ⟨0, 14695981039346656037, by omega, rfl, rfl, ⟨by omega, rfl⟩⟩
  case round =>
    obtain ⟨k, q, hk, rfl, rfl, hrel⟩ := hrel
    rcases Nat.lt_or_ge k xs.length with hlt | hge
    · obtain ⟨bb, off, rfl, hc⟩ := RdB.at_ hr hlt
      obtain ⟨h0, h1⟩ := hx _ (rd_mem hlt)
      obtain ⟨hq, he⟩ := hrel.out
      rw [drop_rd hlt] at he
      have HE := Lib.hid he
      have hst := fnv_step q _ hq h0 h1
      clear he hq hrel hx hr
      generalize rd xs ↑k = b at *
      generalize hg : fnv1 q b.toNat = q' at *
      have HG := Lib.hid hg
      clear hg
      go_wp2_with fail
      exact ⟨⟨k + 1, q', by omega, by simp, rfl, by rw [← HG.out]; exact fnv1_lt _ _, by have := HE.out; rw [← HG.out]; exact this⟩, by simp [intOf]; omega⟩
    · obtain rfl : k = xs.length := by omega
      go_wp2_with fail
      go_ret
      obtain ⟨hq, he⟩ := hrel.out
      rw [List.drop_length] at he
      rw [← he]
      exact ⟨rfl, rfl⟩

theorem mix_val (x q k : Nat) (hk : k < 8) (hq : q < 18446744073709551616) (hx : x < 18446744073709551616) :
    IntKind.u64.wrap (bits .xor .u64 (q : Int) (bits .and .u64 ((x : Int) / 2 ^ (56 - 8 * k)) 255) * 1099511628211) = ((fnv1 q (x / 256 ^ (7 - k) % 256) : Nat) : Int) := by
  have e : (x : Int) / 2 ^ (56 - 8 * k) = ((x / 256 ^ (7 - k) : Nat) : Int) := by
    have e2 : (2 : Int) ^ (56 - 8 * k) = ((256 ^ (7 - k) : Nat) : Int) := by
      rw [show 56 - 8 * k = 8 * (7 - k) from by omega, Int.pow_mul]
      simp
    rw [e2]
    rfl
  rw [e, and255 _ (Nat.lt_of_le_of_lt (Nat.div_le_self _ _) hx), xor_u64 _ _ hq (by omega), mul_u64]
  rfl
theorem mix_to (x k : Nat) (hk : k < 8) : beTo x (8 - k) = ((x / 256 ^ (7 - k) % 256 : Nat) : Int) :: beTo x (8 - (k + 1)) := by
  rw [show 8 - k = (7 - k) + 1 from by omega, show 8 - (k + 1) = 7 - k from by omega]
  rfl
end Go.Proofs.Ytelfpnpplknlpaa
/- Strings that are put together; a make; an append of one's own. -/
namespace Go.Proofs.Ytelfpnpplknlpaa
open Go.RowKit
open Go.Proofs.YtelfpnpplknlpaaW.PrintWords

theorem str_append (a b : List Int) : strOfNums a ++ strOfNums b = strOfNums (a ++ b) := by
  apply ByteArray.ext
  simp [strOfNums, ByteArray.data_append]
theorem add_str (a b : List Int) (h : a.length + b.length ≤ 9223372036854775807) (w : World) :
    (binOp .add 9 (.string (strOfNums a)) (.string (strOfNums b))).run Try.prog w = .ok (.string (strOfNums (a ++ b))) w := by
  rw [← str_append]
  rw [binOp_string_add]
  exact run_string_add_sum w _ _ (by rw [strOfNums_size, strOfNums_size]; omega)
theorem add_strO (a b : List Int) (h : a.length + b.length ≤ 9223372036854775807) (w : World) :
    (Op.stringOp .add (strOfNums a) (strOfNums b)).run Try.prog w = .ok (.string (strOfNums (a ++ b))) w := by
  rw [← str_append]
  exact run_string_add_sum w _ _ (by rw [strOfNums_size, strOfNums_size]; omega)
theorem make8 (n : Nat) (hn : n ≤ 140737488355328) (W : World) :
    (Instr.makeSlice 22 (.int .i64 0) (.int .i64 (n : Int))).run Try.prog W = .ok (.slice (some ⟨W.heap.size, 0, none⟩) 0 n) (W.alloc (.cells (madeCells #[.int .u8 0] n) 5)) := by
  obtain ⟨i0, hi, hz0, hs0, hb0⟩ := info_parts info8
  have h := run_make (P := Try.prog) W 22 5 i0 (.int .u8 0) Try.underlying22 hi hz0 .i64 .i64 0 (n : Int) (by omega) (by omega) (by rw [hb0]; omega) (by omega)
  rw [hs0, Nat.mul_one] at h
  exact h
theorem ow_make (w : World) (n : Nat) (hn : n ≤ 140737488355328) : OwB (w.alloc (.cells (madeCells #[.int .u8 0] n) 5)) w.heap.size (.slice (some ⟨w.heap.size, 0, none⟩) 0 n) [] := by
  refine ⟨rfl, .inr ⟨w.heap.size, n, _, rfl, Nat.le_refl _, heap_alloc_new w _, by simp, by simp only [maxLen]; omega, ?_, ?_⟩⟩
  · simp [madeCells]
  · simp [nums]
section
variable {ops : Array Oper} {rest : List Oper} {o : Oper} {a : Act} {Q : Exit → Act → World → Prop}
theorem append8_mine {W : World} (B : Nat) (hgd : o.guard = none) (s x : Operand)
    (ho : o.op = .call { callee := .builtin .append, args := #[s, x], argTypes := #[22, 22] })
    (v : Value) (xs ys : List Int) (A : Option Addr) (c : Nat) (hs : a.eval s = v) (hx : a.eval x = .slice A ys.length c)
    (HO : OwB W B v xs) (HR : RdB W A ys) (hbase : B ≤ W.heap.size) (hl : xs.length + ys.length ≤ 140737488355328)
    (h : ∀ v1 w1, OwB w1 B v1 (xs ++ ys) → Fr (fun k => some k = v.ownBlock) W w1 → wpList Try.prog ops Q rest (a.put o.dst v1) w1) :
    wpList Try.prog ops Q (o :: rest) a W := by
  refine print_append_row (w0 := W) B hgd s x _ _ .u8 1 ho Try.underlying22 info8 (by omega) v xs ys A _ c hs hx HO HR (Below.refl _ _) hbase (by omega) ?_
  intro v1 w1 hown hb hg hat
  exact h v1 w1 hown (Fr.of_grown hg)
end
end Go.Proofs.Ytelfpnpplknlpaa
/- digest.Seal, digest.cut, digest.Open and its deferred closure. -/
namespace Go.Proofs.Ytelfpnpplknlpaa
open Go.RowKit
open Go.Proofs.YtelfpnpplknlpaaW.PrintWords

set_option maxRecDepth 100000 in
theorem dig_seal (A : Option Addr) (xs : List Int) (c : Nat) (w : World) (hc : xs.length ≤ c) (hr : RdB w A xs) (hx : Byt xs) (hl : xs.length ≤ 140737488355300) :
    Calls Try.prog 30 #[.slice A xs.length c] w fun r w' => ∃ v, r = .returned v ∧ OwB w' w.heap.size v (xs ++ be8 (dOf xs)) ∧ Fr (fun _ => False) w w' := by
  go_enter Try.func30, Try.ntmps30
  go_wp2_with fail
  refine (dig_of A xs c _ hr hx (by omega)).mono ?_
  rintro r w1 ⟨rfl, rfl⟩
  go_wp2_with fail
  refine (wire_eight A xs c (dOf xs) _ hc hr hl (dOf_lt xs)).mono ?_
  rintro r w2 ⟨v, rfl, ho, hF⟩
  go_wp2_with fail
  go_ret
  exact ⟨_, rfl, ho, hF⟩

set_option maxRecDepth 100000 in
theorem dig_cut_no (A : Option Addr) (n c : Nat) (w : World) (hl : n < 8) :
    Calls Try.prog 38 #[.slice A n c] w fun r w' => r = .panicked [{ v := .iface 74 (.agg #[.int .i64 n]), recovered := false }] ∧ w = w' := by
  go_enter Try.func38, Try.ntmps38
  go_wp2_with fail
  exact ⟨rfl, rfl, rfl⟩

set_option maxRecDepth 100000 in
theorem dig_cut (A : Option Addr) (xs : List Int) (c m : Nat) (w : World) (hm : xs.length = m + 8) (hc : xs.length ≤ c) (hr : RdB w A xs) (hx : Byt xs) (hl : xs.length ≤ 140737488355328) :
    Calls Try.prog 38 #[.slice A xs.length c] w fun r w' => r = .returned (.tuple #[.slice A m c, .int .u64 (beVal (xs.drop m))]) ∧ w = w' := by
  have hsub : (xs.length : Int) - 8 = (m : Int) := by omega
  have h8 : 8 ≤ xs.length := by omega
  obtain ⟨A', ys, hcut, hys⟩ := cut_from8 A c xs m (by omega) hc
  obtain ⟨zs, hcut2, hzs⟩ := cut_to8 A c xs m (by omega) hc
  have hzl := hzs.out.2.1
  rw [hzl] at hcut2
  have hyl : ys.length = 8 := by rw [hys.out.1, List.length_drop]; omega
  have hby : Byt ys := by rw [hys.out.1]; exact fun x h => hx x (List.mem_of_mem_drop h)
  have HG := Lib.hid (wire_getEight A' ys (c - m) w (hys.out.2.2 w hr) hby (by omega) hys.out.2.1 (by omega))
  have hv : beVal (ys.take 8) = beVal (xs.drop m) := by rw [← hyl, List.take_length, hys.out.1]
  rw [hv] at HG
  clear hys hzs hzl hyl hby hv hr hx hm
  go_enter Try.func38, Try.ntmps38
  go_wp2_with fail
  refine HG.out.mono ?_
  rintro r w1 ⟨rfl, rfl⟩
  go_wp2_with fail
  go_ret2
  exact ⟨rfl, rfl⟩

/-- What Open hands back: the bytes and what is wrong. -/
def openR (xs : List Int) : List Int × Int :=
  if xs.length < 8 then ([], 4) else if dOf (xs.take (xs.length - 8)) = beVal (xs.drop (xs.length - 8)) then (xs.take (xs.length - 8), 0) else ([], 21)

theorem short_is (n : Int) (w : World) : (Instr.typeAssert (.iface 74 (.agg #[.int .i64 n])) 20 74 true).run Try.prog w = .ok (.tuple #[.agg #[.int .i64 n], .bool true]) w := by kernel_rfl
theorem short_no (w : World) : (Instr.typeAssert .nilIface 20 74 true).run Try.prog w = .ok (.tuple #[.agg #[.int .i64 0], .bool false]) w := by kernel_rfl
set_option maxRecDepth 100000 in
theorem catch_short (p q : Addr) (x y : Value) (n : Int) (older : List PanicEntry) (w : World) (hp : w.cell? p = some x) (hq : w.cell? q = some y) (hpz : w.frozen? p = false) (hqz : w.frozen? q = false) (hpl : p.block < w.heap.size) (hne : p ≠ q) :
    CallsD Try.prog 37 #[.pointer (some p), .pointer (some q)] (.panicking ({ v := .iface 74 (.agg #[.int .i64 n]), recovered := false } :: older)) w fun e u' w' =>
      e = .returned (.tuple #[]) ∧ u' = .panicking ({ v := .iface 74 (.agg #[.int .i64 n]), recovered := true } :: older) ∧
      w' = ((w.alloc (.cells #[.int .i64 n] 74)).setCell p (.slice none 0 0)).setCell q (.int .i64 4) := by
  refine callsD_of_wpS Try.func37 rfl fun c₀ cs hu => ?_
  apply wpS_seq
  apply wpS_region
  have hr : Array.replicate 8 undef = #[undef, undef, undef, undef, undef, undef, undef, undef] := rfl
  have ha := short_is n
  simp [wpOpsS, go_sem, recoverD, hu, Try.ntmps37, Exit.thenS, hr, ha]
  have hp1 : (w.alloc (.cells #[.int .i64 n] 74)).cell? p = some x := (World.cell?_alloc_lt _ _ _ hpl).trans hp
  have hq1 : ((w.alloc (.cells #[.int .i64 n] 74)).setCell p (.slice none 0 0)).cell? q = some y := by
    rw [World.cell?_setCell_other _ _ _ _ hne]
    exact (World.cell?_alloc_lt _ _ _ (World.block_lt_of_cell? w q hq)).trans hq
  have hz1 : (w.alloc (.cells #[.int .i64 n] 74)).frozen? p = false := by
    have := Below.heap_alloc w (.cells #[.int .i64 n] 74) p.block hpl
    unfold World.frozen? at hpz ⊢
    rw [this]; exact hpz
  have hz2 : ((w.alloc (.cells #[.int .i64 n] 74)).setCell p (.slice none 0 0)).frozen? q = false := by
    rw [World.frozen?_setCell]
    have := Below.heap_alloc w (.cells #[.int .i64 n] 74) q.block (World.block_lt_of_cell? w q hq)
    unfold World.frozen? at hqz ⊢
    rw [this]; exact hqz
  generalize w.alloc (.cells #[.int .i64 n] 74) = w1 at *
  apply wpS_seq
  apply wpS_region
  simp [wpOpsS, go_sem, Exit.thenS]
  refine wpS_cond (t := true) (by simp [Act.eval]) ?_
  simp only [if_true]
  apply wpS_region
  simp [wpOpsS, go_sem, hp1, hq1, hz1, hz2, bodyPostS, results, Try.results37]

set_option maxRecDepth 100000 in
theorem catch_none (p q : Addr) (w : World) :
    CallsD Try.prog 37 #[.pointer (some p), .pointer (some q)] .returning w fun e u' w' =>
      e = .returned (.tuple #[]) ∧ u' = .returning ∧ w' = w.alloc (.cells #[.int .i64 0] 74) := by
  refine callsD_of_wpS Try.func37 rfl fun c₀ cs hu => ?_
  apply wpS_seq
  apply wpS_region
  have hr : Array.replicate 8 undef = #[undef, undef, undef, undef, undef, undef, undef, undef] := rfl
  have ha := short_no
  simp [wpOpsS, go_sem, recoverD, hu, Try.ntmps37, Exit.thenS, hr, ha]
  apply wpS_seq
  apply wpS_region
  simp [wpOpsS, go_sem, Exit.thenS]
  refine wpS_cond (t := false) (by simp [Act.eval]) ?_
  simp only [Bool.false_eq_true, if_false]
  refine wpS_of_wp (wp_skip ?_)
  cases c₀
  simp_all [bodyPostS, results, Try.results37]

set_option maxRecDepth 100000 in
theorem dig_open_short (A : Option Addr) (n c : Nat) (w : World) (hl : n < 8) :
    Calls Try.prog 16 #[.slice A n c] w fun r w' => r = .returned (.tuple #[.slice none 0 0, .int .i64 4]) ∧ Fr (fun _ => False) w w' := by
  have hmf : ∀ (fn : Fn) (first cap : Array Value) (w : World), (Instr.makeFunc fn first cap).run Try.prog w = .ok (.func fn first cap) w := fun _ _ _ _ => rfl
  go_enter_defers Try.func16, Try.ntmps16
  go_wp2_with fail
  refine (dig_cut_no A n c _ hl).mono ?_
  rintro r w1 ⟨rfl, rfl⟩
  go_wp2_with fail
  have b0 : Blk (w.alloc (.cells #[.slice none 0 0] 22)) w.heap.size 22 #[.slice none 0 0] := Blk.new _ _ _
  have b1 : Blk ((w.alloc (.cells #[.slice none 0 0] 22)).alloc (.cells #[.int .i64 0] 33)) (w.heap.size + 1) 33 #[.int .i64 0] := by
    have := Blk.new (w.alloc (.cells #[.slice none 0 0] 22)) 33 #[.int .i64 0]
    simpa using this
  replace b0 := b0.alloc (.cells #[.int .i64 0] 33)
  have F0 : Fr (fun _ => False) w ((w.alloc (.cells #[.slice none 0 0] 22)).alloc (.cells #[.int .i64 0] 33)) := ((Fr.refl _ _).alloc _).alloc _
  generalize (w.alloc (.cells #[.slice none 0 0] 22)).alloc (.cells #[.int .i64 0] 33) = wa at *
  refine leaves_cons (f := 37) (args := #[.pointer (some ⟨w.heap.size, 0, none⟩), .pointer (some ⟨w.heap.size + 1, 0, none⟩)]) (by simp) (by simp [go_sem]) ?_
  have hne : (⟨w.heap.size, 0, none⟩ : Addr) ≠ ⟨w.heap.size + 1, 0, none⟩ := by simp
  refine (catch_short ⟨w.heap.size, 0, none⟩ ⟨w.heap.size + 1, 0, none⟩ (.slice none 0 0) (.int .i64 0) _ [] wa (b0.cell 0) (b1.cell 0) (b0.frozen 0) (b1.frozen 0) b0.lt hne).mono ?_
  rintro e u' w'' ⟨rfl, rfl, rfl⟩
  have c1 : (((wa.alloc (.cells #[.int .i64 n] 74)).setCell ⟨w.heap.size, 0, none⟩ (.slice none 0 0)).setCell ⟨w.heap.size + 1, 0, none⟩ (.int .i64 4)).cell? ⟨w.heap.size, 0, none⟩ = some (.slice none 0 0) :=
    (((b0.alloc _).set_ 0 _).far (by simp) _).cell 0
  have c2 : (((wa.alloc (.cells #[.int .i64 n] 74)).setCell ⟨w.heap.size, 0, none⟩ (.slice none 0 0)).setCell ⟨w.heap.size + 1, 0, none⟩ (.int .i64 4)).cell? ⟨w.heap.size + 1, 0, none⟩ = some (.int .i64 4) :=
    (((b1.alloc _).far (by simp) _).set_ 0 _).cell 0
  have F1 : Fr (fun _ => False) w (((wa.alloc (.cells #[.int .i64 n] 74)).setCell ⟨w.heap.size, 0, none⟩ (.slice none 0 0)).setCell ⟨w.heap.size + 1, 0, none⟩ (.int .i64 4)) :=
    ((F0.alloc _).setCell (.inr (Nat.le_refl _)) _).setCell (.inr (by simp)) _
  generalize ((wa.alloc (.cells #[.int .i64 n] 74)).setCell ⟨w.heap.size, 0, none⟩ (.slice none 0 0)).setCell ⟨w.heap.size + 1, 0, none⟩ (.int .i64 4) = wz at *
  simp [Leaves, settle, results, Try.results16, go_sem, c1, c2]
  exact F1
set_option maxRecDepth 100000 in
theorem dig_open_sum (A : Option Addr) (xs : List Int) (c m : Nat) (w : World) (hm : xs.length = m + 8) (hc : xs.length ≤ c) (hr : RdB w A xs) (hx : Byt xs) (hl : xs.length ≤ 140737488355328) (hd : dOf (xs.take m) ≠ beVal (xs.drop m)) :
    Calls Try.prog 16 #[.slice A xs.length c] w fun r w' => r = .returned (.tuple #[.slice none 0 0, .int .i64 21]) ∧ Fr (fun _ => False) w w' := by
  have hmf : ∀ (fn : Fn) (first cap : Array Value) (w : World), (Instr.makeFunc fn first cap).run Try.prog w = .ok (.func fn first cap) w := fun _ _ _ _ => rfl
  have hlt : (xs.take m).length = m := by rw [List.length_take]; omega
  have HR0 : ∀ w', RdB w' A xs → Hid (RdB w' A (xs.take m)) := by
    obtain ⟨zs, _, hzs⟩ := cut_to8 A c xs m (by omega) hc
    intro w' h
    have := hzs.out.2.2 w' h
    rw [hzs.out.1] at this
    exact this
  have hxt : Byt (xs.take m) := fun x h => hx x (List.mem_of_mem_take h)
  have HM := Lib.hid hm
  have hml : m ≤ 140737488355328 := by omega
  clear hm
  go_enter_defers Try.func16, Try.ntmps16
  go_wp2_with fail
  have b0 : Blk (w.alloc (.cells #[.slice none 0 0] 22)) w.heap.size 22 #[.slice none 0 0] := Blk.new _ _ _
  have b1 : Blk ((w.alloc (.cells #[.slice none 0 0] 22)).alloc (.cells #[.int .i64 0] 33)) (w.heap.size + 1) 33 #[.int .i64 0] := by
    have := Blk.new (w.alloc (.cells #[.slice none 0 0] 22)) 33 #[.int .i64 0]
    simpa using this
  replace b0 := b0.alloc (.cells #[.int .i64 0] 33)
  have F0 : Fr (fun _ => False) w ((w.alloc (.cells #[.slice none 0 0] 22)).alloc (.cells #[.int .i64 0] 33)) := ((Fr.refl _ _).alloc _).alloc _
  have hra := hr.fr F0 (fun _ _ h => h)
  have HC := Lib.hid (dig_cut A xs c m _ HM.out hc hra hx hl)
  have HD := Lib.hid (dig_of A (xs.take m) c _ (HR0 _ hra).out hxt (by rw [hlt]; exact hml))
  rw [hlt] at HD
  generalize (w.alloc (.cells #[.slice none 0 0] 22)).alloc (.cells #[.int .i64 0] 33) = wa at *
  refine HC.out.mono ?_
  rintro r w1 ⟨rfl, rfl⟩
  generalize hgd : dOf (xs.take m) = d at HD hd
  generalize beVal (xs.drop m) = e at hd HC
  go_wp2_with fail
  refine HD.out.mono ?_
  rintro r w1 ⟨rfl, rfl⟩
  have hd' : ¬ ((d : Int) = (e : Int)) := by omega
  have z0 := b0.frozen 0
  have z1 := b1.frozen 0
  have y0 := b0.cell 0
  have y1 := (b1.far (p := ⟨w.heap.size, 0, none⟩) (by simp) (.slice none 0 0)).cell 0
  have z2 := (b1.far (p := ⟨w.heap.size, 0, none⟩) (by simp) (.slice none 0 0)).frozen 0
  go_wp2_with fail
  refine leaves_cons (f := 37) (args := #[.pointer (some ⟨w.heap.size, 0, none⟩), .pointer (some ⟨w.heap.size + 1, 0, none⟩)]) (by simp) (by simp [go_sem]) ?_
  refine (catch_none ⟨w.heap.size, 0, none⟩ ⟨w.heap.size + 1, 0, none⟩ _).mono ?_
  rintro e u' w'' ⟨rfl, rfl, rfl⟩
  have c1 : (((wa.setCell ⟨w.heap.size, 0, none⟩ (.slice none 0 0)).setCell ⟨w.heap.size + 1, 0, none⟩ (.int .i64 21)).alloc (.cells #[.int .i64 0] 74)).cell? ⟨w.heap.size, 0, none⟩ = some (.slice none 0 0) := (((b0.set_ 0 _).far (by simp) _).alloc _).cell 0
  have c2 : (((wa.setCell ⟨w.heap.size, 0, none⟩ (.slice none 0 0)).setCell ⟨w.heap.size + 1, 0, none⟩ (.int .i64 21)).alloc (.cells #[.int .i64 0] 74)).cell? ⟨w.heap.size + 1, 0, none⟩ = some (.int .i64 21) := (((b1.far (by simp) _).set_ 0 _).alloc _).cell 0
  have F1 : Fr (fun _ => False) w (((wa.setCell ⟨w.heap.size, 0, none⟩ (.slice none 0 0)).setCell ⟨w.heap.size + 1, 0, none⟩ (.int .i64 21)).alloc (.cells #[.int .i64 0] 74)) := ((F0.setCell (.inr (Nat.le_refl _)) _).setCell (.inr (by simp)) _).alloc _
  generalize (((wa.setCell ⟨w.heap.size, 0, none⟩ (.slice none 0 0)).setCell ⟨w.heap.size + 1, 0, none⟩ (.int .i64 21)).alloc (.cells #[.int .i64 0] 74)) = wz at *
  simp [Leaves, settle, results, Try.results16, go_sem, c1, c2]
  exact F1

set_option maxRecDepth 100000 in
theorem dig_open_ok (A : Option Addr) (xs : List Int) (c m : Nat) (w : World) (hm : xs.length = m + 8) (hc : xs.length ≤ c) (hr : RdB w A xs) (hx : Byt xs) (hl : xs.length ≤ 140737488355328) (hd : dOf (xs.take m) = beVal (xs.drop m)) :
    Calls Try.prog 16 #[.slice A xs.length c] w fun r w' => ∃ v, r = .returned (.tuple #[v, .int .i64 0]) ∧ OwB w' w.heap.size v (xs.take m) ∧ Fr (fun _ => False) w w' := by
  have hmf : ∀ (fn : Fn) (first cap : Array Value) (w : World), (Instr.makeFunc fn first cap).run Try.prog w = .ok (.func fn first cap) w := fun _ _ _ _ => rfl
  have hlt : (xs.take m).length = m := by rw [List.length_take]; omega
  have HR0 : ∀ w', RdB w' A xs → Hid (RdB w' A (xs.take m)) := by
    obtain ⟨zs, _, hzs⟩ := cut_to8 A c xs m (by omega) hc
    intro w' h
    have := hzs.out.2.2 w' h
    rw [hzs.out.1] at this
    exact this
  have hxt : Byt (xs.take m) := fun x h => hx x (List.mem_of_mem_take h)
  have HM := Lib.hid hm
  have hml : m ≤ 140737488355328 := by omega
  clear hm
  go_enter_defers Try.func16, Try.ntmps16
  go_wp2_with fail
  have b0 : Blk (w.alloc (.cells #[.slice none 0 0] 22)) w.heap.size 22 #[.slice none 0 0] := Blk.new _ _ _
  have b1 : Blk ((w.alloc (.cells #[.slice none 0 0] 22)).alloc (.cells #[.int .i64 0] 33)) (w.heap.size + 1) 33 #[.int .i64 0] := by
    have := Blk.new (w.alloc (.cells #[.slice none 0 0] 22)) 33 #[.int .i64 0]
    simpa using this
  replace b0 := b0.alloc (.cells #[.int .i64 0] 33)
  have F0 : Fr (fun _ => False) w ((w.alloc (.cells #[.slice none 0 0] 22)).alloc (.cells #[.int .i64 0] 33)) := ((Fr.refl _ _).alloc _).alloc _
  have hra := hr.fr F0 (fun _ _ h => h)
  have HC := Lib.hid (dig_cut A xs c m _ HM.out hc hra hx hl)
  have HD := Lib.hid (dig_of A (xs.take m) c _ (HR0 _ hra).out hxt (by rw [hlt]; exact hml))
  rw [hlt] at HD
  generalize (w.alloc (.cells #[.slice none 0 0] 22)).alloc (.cells #[.int .i64 0] 33) = wa at *
  have hr0 := (HR0 _ (hra.fr ((Fr.refl (fun _ => False) wa).alloc (.cells #[] 5)) (fun _ _ h => h))).out
  have ho0 := ow_lit0 wa
  have hs0 : wa.heap.size ≤ (wa.alloc (.cells #[] 5)).heap.size := ((Fr.refl (fun _ => False) wa).alloc _).size
  have hsa := F0.size
  have hl1 := b1.lt
  clear HR0 hr hx hra
  obtain ⟨ys, hys⟩ : ∃ ys, Hid (xs.take m = ys) := ⟨_, rfl⟩
  rw [hys.out] at hlt hxt HD hd hr0
  subst hlt
  have hb1 : ([] : List Int).length + ys.length ≤ 140737488355328 := by simp; omega
  refine HC.out.mono ?_
  rintro r w1 ⟨rfl, rfl⟩
  generalize hgd : dOf ys = d at HD hd
  generalize beVal (xs.drop ys.length) = e at hd HC
  subst hd
  go_wp2_with fail
  refine HD.out.mono ?_
  rintro r w1 ⟨rfl, rfl⟩
  go_wp2_with (at_builtin; go_must (refine append8_mine wa.heap.size rfl _ _ rfl (.slice (some ⟨wa.heap.size, 0, none⟩) 0 0) [] ys A c rfl rfl ho0 hr0 hs0 hb1 ?_); intro v1 w1 hown hF; simp only [List.nil_append] at hown; obtain ⟨A1, cc, rfl, _⟩ := hown.reads; have d0 := (b0.alloc (.cells #[] 5)).fr hF (fun h => by simp [Value.ownBlock] at h; omega); have d1 := (b1.alloc (.cells #[] 5)).fr hF (fun h => by simp [Value.ownBlock] at h; omega); have z0 := d0.frozen 0; have z1 := d1.frozen 0; have y0 := d0.cell 0; have y1 := (d1.far (p := ⟨w.heap.size, 0, none⟩) (by simp) (.slice A1 ys.length cc)).cell 0; have z2 := (d1.far (p := ⟨w.heap.size, 0, none⟩) (by simp) (.slice A1 ys.length cc)).frozen 0)
  refine leaves_cons (f := 37) (args := #[.pointer (some ⟨w.heap.size, 0, none⟩), .pointer (some ⟨w.heap.size + 1, 0, none⟩)]) (by simp) (by simp [go_sem]) ?_
  refine (catch_none ⟨w.heap.size, 0, none⟩ ⟨w.heap.size + 1, 0, none⟩ _).mono ?_
  rintro e u' w'' ⟨rfl, rfl, rfl⟩
  have c1 : (((w1.setCell ⟨w.heap.size, 0, none⟩ (.slice A1 ys.length cc)).setCell ⟨w.heap.size + 1, 0, none⟩ (.int .i64 0)).alloc (.cells #[.int .i64 0] 74)).cell? ⟨w.heap.size, 0, none⟩ = some (.slice A1 ys.length cc) := (((d0.set_ 0 _).far (by simp) _).alloc _).cell 0
  have c2 : (((w1.setCell ⟨w.heap.size, 0, none⟩ (.slice A1 ys.length cc)).setCell ⟨w.heap.size + 1, 0, none⟩ (.int .i64 0)).alloc (.cells #[.int .i64 0] 74)).cell? ⟨w.heap.size + 1, 0, none⟩ = some (.int .i64 0) := (((d1.far (by simp) _).set_ 0 _).alloc _).cell 0
  have F2 : Fr (fun _ => False) w w1 := (F0.alloc _).trans' hF (fun i hi h => by simp [Value.ownBlock] at h; omega)
  have F1 : Fr (fun _ => False) w (((w1.setCell ⟨w.heap.size, 0, none⟩ (.slice A1 ys.length cc)).setCell ⟨w.heap.size + 1, 0, none⟩ (.int .i64 0)).alloc (.cells #[.int .i64 0] 74)) := ((F2.setCell (.inr (Nat.le_refl _)) _).setCell (.inr (by simp)) _).alloc _
  have hs1 := hF.size
  have OO : OwB (((w1.setCell ⟨w.heap.size, 0, none⟩ (.slice A1 ys.length cc)).setCell ⟨w.heap.size + 1, 0, none⟩ (.int .i64 0)).alloc (.cells #[.int .i64 0] 74)) w.heap.size (.slice A1 ys.length cc) (xs.take ys.length) := by
    rw [hys.out]
    refine OwB.lower (B := wa.heap.size) (OwB.fr (S := fun k => k < wa.heap.size) hown (((Fr.refl _ _).setCell (.inl (by show w.heap.size < wa.heap.size; omega)) _).setCell (.inl (by show w.heap.size + 1 < wa.heap.size; omega)) _ |>.alloc _) (fun k hB _ hk => by have : k < wa.heap.size := hk; omega)) hsa
  generalize (((w1.setCell ⟨w.heap.size, 0, none⟩ (.slice A1 ys.length cc)).setCell ⟨w.heap.size + 1, 0, none⟩ (.int .i64 0)).alloc (.cells #[.int .i64 0] 74)) = wz at *
  simp [Leaves, settle, results, Try.results16, go_sem, c1, c2]
  exact ⟨OO, F1⟩
end Go.Proofs.Ytelfpnpplknlpaa
/- Digests, plain: one byte changed changes the digest; what was sealed and changed in one byte is not opened. No program in sight. -/
namespace Go.Proofs.Ytelfpnpplknlpaa
open Go.RowKit
open Go.Proofs.YtelfpnpplknlpaaW.PrintWords

theorem xor_back (a x : Nat) : (a ^^^ x) ^^^ x = a := by rw [Nat.xor_assoc, Nat.xor_self, Nat.xor_zero]
theorem mulP_inj {a b : Nat} (ha : a < 18446744073709551616) (hb : b < 18446744073709551616) (h : a * 1099511628211 % 18446744073709551616 = b * 1099511628211 % 18446744073709551616) : a = b := by
  have key : ∀ a : Nat, a < 18446744073709551616 → (a * 1099511628211 % 18446744073709551616) * 14886173955864302971 % 18446744073709551616 = a := by
    intro a ha
    rw [Nat.mod_mul_mod, Nat.mul_assoc, show 1099511628211 * 14886173955864302971 = 18446744073709551616 * 887285111055 + 1 from by decide, Nat.mul_add, Nat.mul_one, ← Nat.mul_assoc, Nat.mul_comm a 18446744073709551616, Nat.mul_assoc, Nat.mul_add_mod, Nat.mod_eq_of_lt ha]
  rw [← key a ha, ← key b hb, h]
theorem fnv1_inj_h {h h' x : Nat} (hh : h < 18446744073709551616) (hh' : h' < 18446744073709551616) (hx : x < 256) (e : fnv1 h x = fnv1 h' x) : h = h' := by
  have := mulP_inj (Nat.xor_lt_two_pow (n := 64) (by omega) (by omega)) (Nat.xor_lt_two_pow (n := 64) (by omega) (by omega)) e
  rw [← xor_back h x, ← xor_back h' x, this]
theorem fnv1_inj_x {h x x' : Nat} (hh : h < 18446744073709551616) (hx : x < 256) (hx' : x' < 256) (e : fnv1 h x = fnv1 h x') : x = x' := by
  have := mulP_inj (Nat.xor_lt_two_pow (n := 64) (by omega) (by omega)) (Nat.xor_lt_two_pow (n := 64) (by omega) (by omega)) e
  rw [← xor_back x h, ← xor_back x' h, Nat.xor_comm x h, Nat.xor_comm x' h, this]
theorem fnv_inj_h : ∀ (xs : List Int) (h h' : Nat), h < 18446744073709551616 → h' < 18446744073709551616 → Byt xs → fnv h xs = fnv h' xs → h = h'
  | [], h, h', _, _, _, e => e
  | x :: xs, h, h', hh, hh', hb, e => by
    have h1 := hb x (List.mem_cons_self ..)
    exact fnv1_inj_h hh hh' (by omega) (fnv_inj_h xs _ _ (fnv1_lt _ _) (fnv1_lt _ _) (fun y hy => hb y (List.mem_cons_of_mem _ hy)) e)
theorem fnv_set_ne : ∀ (xs : List Int) (k : Nat) (y : Int) (h : Nat), h < 18446744073709551616 → Byt xs → 0 ≤ y → y ≤ 255 → k < xs.length → xs.getD k 0 ≠ y → fnv h (xs.set k y) ≠ fnv h xs
  | [], k, y, h, _, _, _, _, hk, _ => by simp at hk
  | x :: xs, 0, y, h, hh, hb, h0, h1, _, hne => by
    intro e
    have hx := hb x (List.mem_cons_self ..)
    have e1 := fnv_inj_h xs _ _ (fnv1_lt _ _) (fnv1_lt _ _) (fun y hy => hb y (List.mem_cons_of_mem _ hy)) e
    have e2 := fnv1_inj_x hh (by omega) (by omega) e1
    simp at hne
    omega
  | x :: xs, k + 1, y, h, hh, hb, h0, h1, hk, hne => by
    intro e
    simp at hk hne
    exact fnv_set_ne xs k y _ (fnv1_lt _ _) (fun y hy => hb y (List.mem_cons_of_mem _ hy)) h0 h1 hk (by simpa using hne) e

/-- Sealed, and one byte changed: not opened. -/
theorem seal_changed {xs : List Int} (hx : Byt xs) (k : Nat) (y : Int) (h0 : 0 ≤ y) (h1 : y ≤ 255) (hk : k < (xs ++ be8 (dOf xs)).length) (hne : (xs ++ be8 (dOf xs)).getD k 0 ≠ y) :
    dOf (((xs ++ be8 (dOf xs)).set k y).take xs.length) ≠ beVal (((xs ++ be8 (dOf xs)).set k y).drop xs.length) := by
  rcases Nat.lt_or_ge k xs.length with hlt | hge
  · rw [List.set_append_left _ _ hlt, List.take_left' (by simp), List.drop_left' (by simp), beVal_be8 (dOf_lt xs)]
    refine fnv_set_ne xs k y _ (by omega) hx h0 h1 hlt ?_
    rw [List.getD_eq_getElem?_getD, List.getElem?_append_left hlt, ← List.getD_eq_getElem?_getD] at hne
    exact hne
  · rw [List.set_append_right _ _ hge, List.take_left' rfl, List.drop_left' rfl]
    intro e
    rw [List.getD_eq_getElem?_getD, List.getElem?_append_right hge, ← List.getD_eq_getElem?_getD] at hne
    have hl : k - xs.length < 8 := by rw [List.length_append, show (be8 (dOf xs)).length = 8 from rfl] at hk; omega
    have hb : Byt ((be8 (dOf xs)).set (k - xs.length) y) := by
      intro z hz
      rcases List.mem_or_eq_of_mem_set hz with h | h
      · exact beTo_byt _ 8 z h
      · subst h; exact ⟨h0, h1⟩
    have h2 := be8_val (l := (be8 (dOf xs)).set (k - xs.length) y) (by simp; rfl) hb
    rw [← e] at h2
    have h3 : ((be8 (dOf xs)).set (k - xs.length) y).getD (k - xs.length) 0 = y := by
      rw [List.getD_eq_getElem?_getD, List.getElem?_set_self (by show k - xs.length < 8; exact hl)]; rfl
    rw [← h2] at h3
    exact hne h3
theorem set_same {xs : List Int} {k : Nat} (hk : k < xs.length) : xs.set k (xs.getD k 0) = xs := by
  apply List.ext_getElem
  · simp
  · intro i h1 h2
    rw [List.getElem_set]
    split
    · subst_vars; rw [List.getD_eq_getElem?_getD, List.getElem?_eq_getElem hk]; rfl
    · rfl
theorem set_byt {xs : List Int} {k : Nat} {y : Int} (h : Byt xs) (h0 : 0 ≤ y) (h1 : y ≤ 255) : Byt (xs.set k y) := by
  intro z hz
  rcases List.mem_or_eq_of_mem_set hz with h' | h'
  · exact h z h'
  · subst h'; exact ⟨h0, h1⟩
/-- The digest stands behind just when the bytes behind are its bytes. -/
theorem sum_iff {l : List Int} {d : Nat} (hl : l.length = 8) (hb : Byt l) (hd : d < 18446744073709551616) : d = beVal l ↔ l = be8 d := by
  constructor
  · intro h; rw [h, be8_val hl hb]
  · intro h; rw [h, beVal_be8 hd]
/-- Strings of bytes are alike just when the bytes are. -/
theorem str_inj {a b : List Int} (ha : Byt a) (hb : Byt b) (h : strOfNums a = strOfNums b) : a = b := by
  have h1 : a.map (fun n : Int => UInt8.ofNat n.toNat) = b.map (fun n : Int => UInt8.ofNat n.toNat) := by
    simpa [strOfNums] using h
  have h2 := congrArg (List.map fun u : UInt8 => (u.toNat : Int)) h1
  rw [List.map_map, List.map_map] at h2
  have key : ∀ l : List Int, Byt l → l.map ((fun u : UInt8 => (u.toNat : Int)) ∘ fun n : Int => UInt8.ofNat n.toNat) = l := by
    intro l
    induction l with
    | nil => intro _; rfl
    | cons x l ih =>
      intro hb
      have h := hb x (List.mem_cons_self ..)
      rw [List.map_cons, ih (fun y hy => hb y (List.mem_cons_of_mem _ hy))]
      congr 1
      show ((UInt8.ofNat x.toNat).toNat : Int) = x
      rw [UInt8.toNat_ofNat_of_lt' (by show x.toNat < 256; omega)]
      omega
  rw [key a ha, key b hb] at h2
  exact h2
theorem str_ne {a b : List Int} (ha : Byt a) (hb : Byt b) (h : a ≠ b) : ((strOfNums a).toList == (strOfNums b).toList) = false := by
  rw [beq_eq_false_iff_ne]
  intro e
  apply h
  apply str_inj ha hb
  rw [ByteArray.toList_eq, ByteArray.toList_eq] at e
  exact Go.WideShapes.bytes_inj e
end Go.Proofs.Ytelfpnpplknlpaa
