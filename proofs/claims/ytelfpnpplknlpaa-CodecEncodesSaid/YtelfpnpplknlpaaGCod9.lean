/- Texts of Cod, merged (9 of 27): FltA, CodP. -/
import Derived.Test.YtelfpnpplknlpaaGCod7
import Derived.Test.YtelfpnpplknlpaaGCod6
import Derived.Laws.NewFold
import Derived.Test.YtelfpnpplknlpaaGCod2
import Derived.Test.YtelfpnpplknlpaaGCod8
set_option linter.unusedVariables false
set_option linter.unusedSimpArgs false
/- Sums of doubles: what the sum is, as its one word; canonical cells. -/
namespace Go.Proofs.Ytelfpnpplknlpaa
open Go.RowKit

theorem add_nan {x y : Nat} (h : nanW x ∨ nanW y) : Ieee.double.add x y = none := by
  unfold Ieee.Format.add
  rcases h with h | h
  · obtain ⟨t, e⟩ := read_nan x h
    rw [e]; rfl
  · obtain ⟨t, e⟩ := read_nan y h
    rw [e]
    cases Ieee.double.read x <;> rfl
theorem nan_cut (x y t : Nat) : nanW (Question.cut (.nanBits .f64 x y) t) ∧ Question.cut (.nanBits .f64 x y) t < 18446744073709551616 := by
  have e : Question.cut (.nanBits .f64 x y) t = (t % 2) * 9223372036854775808 + 9218868437227405312 + 1 + (t / 2) % 4503599627370495 := rfl
  rw [e]
  unfold nanW rung
  have h1 : t % 2 = 0 ∨ t % 2 = 1 := by omega
  have h2 : t / 2 % 4503599627370495 < 4503599627370495 := Nat.mod_lt _ (by omega)
  generalize t / 2 % 4503599627370495 = b at h2
  rcases h1 with h | h <;> rw [h] <;> omega
theorem nan_add {x y : Nat} (h : Ieee.double.add x y = none) (w : World) : ∃ r, nanW r ∧ r < 18446744073709551616 ∧ (binOp .add 56 (.float .f64 x) (.float .f64 y)).run Try.prog w = .ok (.float .f64 r) w.drew := by
  have h' : FloatKind.f64.format.add x y = none := h
  refine ⟨_, (nan_cut x y (w.tape w.drawn (.nanBits .f64 x y))).1, (nan_cut x y (w.tape w.drawn (.nanBits .f64 x y))).2, ?_⟩
  simp [binOp, Op.floatArith, h', Question.forced]
/-- The sum of two: what it is, as the one word of its kind; the world may have drawn. -/
theorem add_any (x y : Nat) (hx : x < 18446744073709551616) (hy : y < 18446744073709551616) (w : World) :
    ∃ r w1, r < 18446744073709551616 ∧ (binOp .add 56 (.float .f64 x) (.float .f64 y)).run Try.prog w = .ok (.float .f64 r) w1 ∧ Fr (fun _ => False) w w1 ∧
      ((Ieee.double.add x y = none ∧ nanW r) ∨ Ieee.double.add x y = some r) := by
  cases h : Ieee.double.add x y with
  | none =>
    obtain ⟨r, h1, h2, h3⟩ := nan_add h w
    exact ⟨r, w.drew, h2, h3, (Fr.refl _ _).drew, .inl ⟨rfl, h1⟩⟩
  | some r => exact ⟨r, w, Ieee.Format.add_lt _ h, addF h w, Fr.refl _ _, .inr rfl⟩
theorem canon_lt {x : Nat} (hx : x < 18446744073709551616) : canonP x < 18446744073709551616 := by unfold canonP; split; omega; exact hx
theorem canon_canon (x : Nat) : canonP (canonP x) = canonP x := by
  have hn : nanW 9221120237041090561 := by decide +kernel
  unfold canonP
  by_cases h : nanW x
  · rw [if_pos h, if_pos hn]
  · rw [if_neg h, if_neg h]
/-- Two sums of the same two have one key. -/
theorem keys_sum {x y s t : Nat} (hs : s < 18446744073709551616) (ht : t < 18446744073709551616) (h1 : (Ieee.double.add x y = none ∧ nanW s) ∨ Ieee.double.add x y = some s) (h2 : (Ieee.double.add x y = none ∧ nanW t) ∨ Ieee.double.add x y = some t) : key s = key t := by
  rcases h1 with ⟨e1, n1⟩ | e1 <;> rcases h2 with ⟨e2, n2⟩ | e2
  · unfold key; rw [if_pos n1, if_pos n2]
  · rw [e1] at e2; cases e2
  · rw [e1] at e2; cases e2
  · rw [e1] at e2; injection e2 with e; rw [e]
theorem key_canonP {x : Nat} (hx : x < 18446744073709551616) : key (canonP x) = key x := (key_canon (canon_lt hx) hx).1 (canon_canon x)

/-- The one word of a sum. -/
def sumC (x y : Nat) : Nat := match Ieee.double.add x y with | some r => canonP r | none => 9221120237041090561
theorem canon_nan {x : Nat} (h : nanW x) : canonP x = 9221120237041090561 := if_pos h
theorem nan_canon {x : Nat} (h : nanW x) : nanW (canonP x) := by rw [canon_nan h]; decide +kernel
theorem canon_not {x : Nat} (h : ¬ nanW x) : canonP x = x := if_neg h
theorem sumC_of {x y s : Nat} (h : (Ieee.double.add x y = none ∧ nanW s) ∨ Ieee.double.add x y = some s) : canonP s = sumC x y := by
  unfold sumC
  rcases h with ⟨h1, h2⟩ | h
  · rw [h1]; exact canon_nan h2
  · rw [h]
theorem sumC_l (x y : Nat) : sumC (canonP x) y = sumC x y := by
  by_cases h : nanW x
  · unfold sumC; rw [add_nan (.inl h), add_nan (.inl (nan_canon h))]
  · rw [canon_not h]
theorem sumC_r (x y : Nat) : sumC x (canonP y) = sumC x y := by
  by_cases h : nanW y
  · unfold sumC; rw [add_nan (.inr h), add_nan (.inr (nan_canon h))]
  · rw [canon_not h]
theorem sumC_lt (x y : Nat) : sumC x y < 18446744073709551616 := by
  unfold sumC
  cases h : Ieee.double.add x y with
  | none => decide
  | some r => exact canon_lt (Ieee.Format.add_lt _ h)
theorem canon_sumC (x y : Nat) : canonP (sumC x y) = sumC x y := by
  unfold sumC
  cases h : Ieee.double.add x y with
  | none => decide +kernel
  | some r => exact canon_canon r
end Go.Proofs.Ytelfpnpplknlpaa
/- A record's bytes: how they are written, and what they tell; plainly. -/
namespace Go.Proofs.Ytelfpnpplknlpaa
open Go.RowKit
open Go.Proofs.YtelfpnpplknlpaaW.PrintWords

/-- What is read: a value and the bytes behind it, or what is wrong. -/
abbrev Rd (α : Type) := Except Int (α × List Int)
def numR (xs : List Int) : Rd Nat :=
  if (getR xs 0 0).2.2 ≠ 0 then .error (getR xs 0 0).2.2 else if 1073741824 < (getR xs 0 0).1 then .error 20 else .ok ((getR xs 0 0).1, xs.drop (getR xs 0 0).2.1)
def keyR (xs : List Int) : Rd ByteArray :=
  if (textR xs 12).2.2 ≠ 0 then .error (textR xs 12).2.2 else .ok (strOfNums (textR xs 12).1, xs.drop (textR xs 12).2.1)
def valR (xs : List Int) : Rd Nat :=
  if xs.length < 8 then .error 4 else if canonP (beVal (xs.take 8)) ≠ beVal (xs.take 8) then .error 3 else .ok (beVal (xs.take 8), xs.drop 8)
def thenR {α β : Type} (a : Rd α) (f : α → List Int → Except Int β) : Except Int β := match a with
  | .error e => .error e
  | .ok (x, ys) => f x ys
def hasV (k : Nat) : Bool := k == 2 || k == 4
def cmdR (xs : List Int) : Rd Cmd := thenR (numR xs) fun k ys =>
  if k < 1 ∨ 4 < k then .error 12 else thenR (keyR ys) fun s zs => if hasV k then thenR (valR zs) fun v us => .ok (((k : Int), s, v), us) else .ok (((k : Int), s, 0), zs)
def idR (xs : List Int) : Rd (Int × Int) := thenR (numR xs) fun a ys => thenR (numR ys) fun b zs => .ok (((a : Int), (b : Int)), zs)
def manyR {α : Type} (f : List Int → Rd α) : Nat → List Int → Rd (List α)
  | 0, xs => .ok ([], xs)
  | n + 1, xs => thenR (manyR f n xs) fun l ys => thenR (f ys) fun a zs => .ok (l ++ [a], zs)
noncomputable def endR (r : Rec) (xs : List Int) : Except Int Rec := if xs = [] then (if errRec r = 0 then .ok r else .error (errRec r)) else .error 3
noncomputable def readR (xs : List Int) : Except Int Rec :=
  thenR (numR xs) fun i1 a => thenR (numR a) fun i2 b => thenR (numR b) fun q c => thenR (numR c) fun nd d => if 16 < nd then .error 10 else
    thenR (manyR idR nd d) fun D e => thenR (numR e) fun nb f => if 8 < nb then .error 5 else thenR (manyR cmdR nb f) fun B g => endR (((i1 : Int), (i2 : Int)), (q : Int), D, B) g
/-- How it is written. -/
def encId (a : Int × Int) : List Int := digs a.1.toNat ++ digs a.2.toNat
def encCmd (c : Cmd) : List Int := digs c.1.toNat ++ (digs c.2.1.size ++ bytesOf c.2.1) ++ (if hasV c.1.toNat then be8 (canonP c.2.2) else [])
def encRec (r : Rec) : List Int := digs r.1.1.toNat ++ (digs r.1.2.toNat ++ (digs r.2.1.toNat ++ (digs r.2.2.1.length ++ (r.2.2.1.flatMap encId ++ (digs r.2.2.2.length ++ r.2.2.2.flatMap encCmd)))))
theorem getR_inv : ∀ (l : List Int) (i n m k : Nat), Byt l → i ≤ 9 → getR l i n = (m, k, 0) → ∃ q ys, l = digs q ++ ys ∧ m = n + q * 2 ^ (7 * i) ∧ k = i + (digs q).length ∧ (0 < i → 0 < q)
  | [], i, n, m, k, _, _, h => by simp [getR] at h
  | c :: r, i, n, m, k, hb, hi, h => by
    obtain ⟨h0, h1⟩ := hb c (List.mem_cons_self)
    simp only [getR] at h
    split at h
    · simp at h
    · rename_i h9
      split at h
      · rename_i hc
        have hi9 : i < 9 := by
          rcases Nat.lt_or_ge i 9 with h' | h'
          · exact h'
          · exact absurd ⟨by omega, by omega⟩ h9
        obtain ⟨q, ys, rfl, hm, hk, hq⟩ := getR_inv r (i + 1) _ m k (fun x hx => hb x (List.mem_cons_of_mem _ hx)) (by omega) h
        have hq0 := hq (by omega)
        refine ⟨c.toNat % 128 + 128 * q, ys, ?_, ?_, ?_, fun _ => by omega⟩
        · rw [digs_big (m := c.toNat % 128 + 128 * q) (by omega), show (c.toNat % 128 + 128 * q) / 128 = q from by omega, show (c.toNat % 128 + 128 * q) % 128 + 128 = c.toNat from by omega, List.cons_append]
          congr 1
          omega
        · rw [hm, show 7 * (i + 1) = 7 * i + 7 from by omega, Nat.pow_add, show (2 : Nat) ^ 7 = 128 from by decide, Nat.add_mul, Nat.add_assoc]
          congr 2
          rw [Nat.mul_comm 128 q, Nat.mul_assoc, Nat.mul_comm 128]
        · rw [digs_big (m := c.toNat % 128 + 128 * q) (by omega), show (c.toNat % 128 + 128 * q) / 128 = q from by omega, List.length_cons, hk]
          omega
      · rename_i hc
        split at h
        · simp at h
        · rename_i hz
          simp only [Prod.mk.injEq] at h
          refine ⟨c.toNat, r, ?_, ?_, ?_, fun hi0 => ?_⟩
          · rw [digs_small (m := c.toNat) (by omega), List.singleton_append]
            congr 1
            omega
          · rw [← h.1, Nat.mod_eq_of_lt (by omega)]
          · rw [digs_small (m := c.toNat) (by omega), ← h.2.1]; rfl
          · have : c ≠ 0 := fun e => hz ⟨e, hi0⟩
            omega
theorem numR_inv {xs ys : List Int} {n : Nat} (hb : Byt xs) (h : numR xs = .ok (n, ys)) : xs = digs n ++ ys ∧ n ≤ 1073741824 := by
  unfold numR at h
  split at h
  · cases h
  · rename_i h0
    split at h
    · cases h
    · rename_i h1
      injection h with h
      injection h with h2 h3
      obtain ⟨q, zs, hx, hm, hk, _⟩ := getR_inv xs 0 0 (getR xs 0 0).1 (getR xs 0 0).2.1 hb (by omega) (by
        have : (getR xs 0 0).2.2 = 0 := Classical.byContradiction fun h => h0 h
        rw [← this])
      simp only [Nat.mul_zero, Nat.pow_zero, Nat.mul_one, Nat.zero_add] at hm hk
      rw [hm] at h2
      subst h2
      refine ⟨?_, by omega⟩
      rw [← h3, hk]
      conv => lhs; rw [hx]
      rw [hx, List.drop_left]
theorem numR_ok {n : Nat} (h : n ≤ 1073741824) (ys : List Int) : numR (digs n ++ ys) = .ok (n, ys) := by
  unfold numR
  rw [get_digs ys (by omega)]
  simp only [ne_eq, not_true_eq_false, if_false, List.drop_left]
  rw [if_neg (by omega)]
theorem byt_left {a b : List Int} (h : Byt (a ++ b)) : Byt a := fun x hx => h x (List.mem_append_left _ hx)
theorem byt_right {a b : List Int} (h : Byt (a ++ b)) : Byt b := fun x hx => h x (List.mem_append_right _ hx)
theorem str_bytes {l : List Int} (h : Byt l) : bytesOf (strOfNums l) = l := by
  simp only [strOfNums, bytesOf, List.map_map]
  have : ∀ x ∈ l, ((fun u : UInt8 => (u.toNat : Int)) ∘ fun n : Int => UInt8.ofNat n.toNat) x = x := fun x hx => by
    obtain ⟨h0, h1⟩ := h x hx
    simp only [Function.comp_apply]
    rw [UInt8.toNat_ofNat_of_lt' (by show x.toNat < 256; omega)]
    omega
  rw [List.map_congr_left this, List.map_id']
theorem str_size (l : List Int) : (strOfNums l).size = l.length := by simp [strOfNums, ByteArray.size]
theorem keyR_inv {xs ys : List Int} {s : ByteArray} (hb : Byt xs) (h : keyR xs = .ok (s, ys)) : xs = digs s.size ++ (bytesOf s ++ ys) ∧ s.size ≤ 12 := by
  unfold keyR at h
  by_cases h0 : (getR xs 0 0).2.2 = 0
  · by_cases h1 : (12 : Int) < 0 ∨ (12 : Int) < (getR xs 0 0).1
    · have hT : textR xs 12 = ([], 0, 18) := by unfold textR; rw [if_neg (fun h => h h0), if_pos h1]
      rw [hT] at h; simp at h
    · by_cases h2 : xs.length - (getR xs 0 0).2.1 < (getR xs 0 0).1
      · have hT : textR xs 12 = ([], 0, 4) := by unfold textR; rw [if_neg (fun h => h h0), if_neg h1, if_pos h2]
        rw [hT] at h; simp at h
      · have hT : textR xs 12 = ((xs.take ((getR xs 0 0).2.1 + (getR xs 0 0).1)).drop (getR xs 0 0).2.1, (getR xs 0 0).2.1 + (getR xs 0 0).1, 0) := by unfold textR; rw [if_neg (fun h => h h0), if_neg h1, if_neg h2]
        rw [hT] at h
        simp only [ne_eq, not_true_eq_false, if_false, Except.ok.injEq, Prod.mk.injEq] at h
        obtain ⟨q, zs, hx, hm, hk, _⟩ := getR_inv xs 0 0 (getR xs 0 0).1 (getR xs 0 0).2.1 hb (by omega) (by rw [← h0])
        simp only [Nat.mul_zero, Nat.pow_zero, Nat.mul_one, Nat.zero_add] at hm hk
        rw [hm, hk] at h h2
        rw [hm] at h1
        have hlen : q ≤ zs.length := by
          have : xs.length = (digs q).length + zs.length := by rw [hx, List.length_append]
          omega
        have ht : (xs.take ((digs q).length + q)).drop (digs q).length = zs.take q := by
          rw [hx, List.take_length_add_append, List.drop_left]
        have hd : xs.drop ((digs q).length + q) = zs.drop q := by
          rw [hx, ← List.drop_drop, List.drop_left]
        rw [ht, hd] at h
        have hbz : Byt (zs.take q) := fun x hx' => (byt_right (hx ▸ hb)) x (List.mem_of_mem_take hx')
        have hsz : s.size = q := by rw [← h.1, str_size, List.length_take]; omega
        rw [hsz, ← h.1, str_bytes hbz, ← h.2, List.take_append_drop]
        exact ⟨hx, by omega⟩
  · have hT : textR xs 12 = ([], 0, (getR xs 0 0).2.2) := by unfold textR; rw [if_pos h0]
    rw [hT] at h
    simp only [ne_eq, h0, not_false_eq_true, if_true] at h
    cases h
theorem keyR_ok (s : ByteArray) (h : s.size ≤ 12) (ys : List Int) : keyR (digs s.size ++ (bytesOf s ++ ys)) = .ok (s, ys) := by
  unfold keyR
  rw [← List.append_assoc, text_digs s ys 12 (by omega) (by omega)]
  simp only [ne_eq, not_true_eq_false, if_false]
  have hb := bytesOf_length s
  rw [bytes_str, ← hb, ← List.length_append, List.drop_left]
theorem valR_inv {xs ys : List Int} {v : Nat} (hb : Byt xs) (h : valR xs = .ok (v, ys)) : xs = be8 (canonP v) ++ ys ∧ v < 18446744073709551616 ∧ canonP v = v := by
  unfold valR at h
  split at h
  · cases h
  · rename_i h8
    split at h
    · cases h
    · rename_i hc
      injection h with h
      injection h with h2 h3
      have hc' : canonP (beVal (xs.take 8)) = beVal (xs.take 8) := Classical.byContradiction hc
      rw [h2] at hc'
      have hb8 : Byt (xs.take 8) := fun x hx => hb x (List.mem_of_mem_take hx)
      have hl8 : (xs.take 8).length = 8 := by rw [List.length_take]; omega
      refine ⟨?_, ?_, hc'⟩
      · rw [hc', ← h2, be8_val hl8 hb8, ← h3, List.take_append_drop]
      · have := beVal_lt (xs.take 8) hb8
        rw [h2, hl8] at this
        exact this
theorem valR_ok {v : Nat} (h : v < 18446744073709551616) (ys : List Int) : valR (be8 (canonP v) ++ ys) = .ok (canonP v, ys) := by
  have hl : (be8 (canonP v)).length = 8 := rfl
  unfold valR
  rw [if_neg (by rw [List.length_append, hl]; omega), List.take_left' hl, List.drop_left' hl, beVal_be8 (canon_lt h), canon_canon]
  simp
theorem thenR_ok {α β : Type} {a : Rd α} {x : α} {ys : List Int} (h : a = .ok (x, ys)) (f : α → List Int → Except Int β) : thenR a f = f x ys := by rw [h]; rfl
theorem thenR_inv {α β : Type} {a : Rd α} {f : α → List Int → Except Int β} {r : β} (h : thenR a f = .ok r) : ∃ x ys, a = .ok (x, ys) ∧ f x ys = .ok r := by
  cases a with
  | error e => cases h
  | ok p => exact ⟨p.1, p.2, rfl, h⟩
def canonCmd (c : Cmd) : Cmd := (c.1, c.2.1, canonP c.2.2)
theorem canon0 : canonP 0 = 0 := by decide +kernel
theorem cmdOk_canon {c : Cmd} (h : cmdOk c) : cmdOk (canonCmd c) := ⟨h.1, h.2.1, fun hk => by show canonP c.2.2 = 0; rw [h.2.2 hk, canon0]⟩
theorem cmdR_ok {c : Cmd} (h : cmdOk c) (hg : CmdGood c) (ys : List Int) : cmdR (encCmd c ++ ys) = .ok (canonCmd c, ys) := by
  obtain ⟨k, s, v⟩ := c
  obtain ⟨hk, hs, hv⟩ := h
  have hs12 : s.size ≤ 12 := hs.2.2
  have key : ∀ n : Nat, k = (n : Int) → 1 ≤ n → n ≤ 4 → cmdR (encCmd (k, s, v) ++ ys) = .ok (canonCmd (k, s, v), ys) := fun n hn h1 h4 => by
    subst hn
    have he : encCmd ((n : Int), s, v) ++ ys = digs n ++ (digs s.size ++ (bytesOf s ++ ((if hasV n then be8 (canonP v) else []) ++ ys))) := by
      unfold encCmd
      simp only [Int.toNat_natCast, List.append_assoc]
    rw [he]
    unfold cmdR
    rw [thenR_ok (numR_ok (by omega) _), if_neg (by omega), thenR_ok (keyR_ok s hs12 _)]
    by_cases hh : hasV n = true
    · rw [if_pos hh, if_pos hh, thenR_ok (valR_ok hg.2 _)]
      rfl
    · rw [if_neg hh, if_neg hh]
      have hv0 : v = 0 := hv (by
        rcases hk with h | h | h | h
        · exact .inl h
        · exfalso; apply hh; have : n = 2 := Int.ofNat.inj h
          subst this; rfl
        · exact .inr h
        · exfalso; apply hh; have : n = 4 := Int.ofNat.inj h
          subst this; rfl)
      show Except.ok (((n : Int), s, 0), [] ++ ys) = .ok (((n : Int), s, canonP v), ys)
      rw [hv0, canon0]
      rfl
  rcases hk with h | h | h | h
  · exact key 1 h (by omega) (by omega)
  · exact key 2 h (by omega) (by omega)
  · exact key 3 h (by omega) (by omega)
  · exact key 4 h (by omega) (by omega)
theorem cmdR_inv {xs ys : List Int} {c : Cmd} (hb : Byt xs) (h : cmdR xs = .ok (c, ys)) : xs = encCmd c ++ ys ∧ canonCmd c = c ∧ c.2.1.size ≤ 12 ∧ c.2.2 < 18446744073709551616 := by
  unfold cmdR at h
  obtain ⟨k, a, h1, h⟩ := thenR_inv h
  obtain ⟨hx, hk⟩ := numR_inv hb h1
  rw [hx] at hb
  split at h
  · cases h
  · obtain ⟨s, b, h2, h⟩ := thenR_inv h
    obtain ⟨ha, hs⟩ := keyR_inv (byt_right hb) h2
    rw [ha] at hb
    split at h
    · rename_i hh
      obtain ⟨v, d, h3, h⟩ := thenR_inv h
      obtain ⟨hd, hv, hc⟩ := valR_inv (byt_right (byt_right (byt_right hb))) h3
      injection h with h
      injection h with h4 h5
      subst h4 h5
      refine ⟨?_, by unfold canonCmd; simp only [hc], hs, hv⟩
      unfold encCmd
      simp only [Int.toNat_natCast, if_pos hh, List.append_assoc]
      rw [hx, ha, hd]
    · rename_i hh
      injection h with h
      injection h with h4 h5
      subst h4 h5
      refine ⟨?_, by unfold canonCmd; simp only [canon0], hs, (by decide : 0 < 18446744073709551616)⟩
      unfold encCmd
      simp only [Int.toNat_natCast, if_neg hh, List.append_assoc, List.nil_append]
      rw [hx, ha]
theorem idR_ok {a : Int × Int} (h0 : 0 ≤ a.1) (h1 : a.1 ≤ 1073741824) (h2 : 0 ≤ a.2) (h3 : a.2 ≤ 1073741824) (ys : List Int) : idR (encId a ++ ys) = .ok (a, ys) := by
  unfold idR encId
  rw [List.append_assoc, thenR_ok (numR_ok (by omega) _), thenR_ok (numR_ok (by omega) _), Int.toNat_of_nonneg h0, Int.toNat_of_nonneg h2]
theorem idR_inv {xs ys : List Int} {a : Int × Int} (hb : Byt xs) (h : idR xs = .ok (a, ys)) : xs = encId a ++ ys := by
  unfold idR at h
  obtain ⟨m, b, h1, h⟩ := thenR_inv h
  obtain ⟨hx, _⟩ := numR_inv hb h1
  rw [hx] at hb
  obtain ⟨n, c, h2, h⟩ := thenR_inv h
  obtain ⟨hy, _⟩ := numR_inv (byt_right hb) h2
  injection h with h
  injection h with h4 h5
  subst h4 h5
  unfold encId
  simp only [Int.toNat_natCast, List.append_assoc]
  rw [hx, hy]
theorem manyR_ok {α : Type} {f : List Int → Rd α} {enc : α → List Int} {g : α → α} : ∀ (n : Nat) (L : List α) (ys : List Int), L.length = n → (∀ a ∈ L, ∀ ys, f (enc a ++ ys) = .ok (g a, ys)) → manyR f n (L.flatMap enc ++ ys) = .ok (L.map g, ys) := by
  intro n
  induction n with
  | zero =>
    intro L ys hL _
    rw [List.length_eq_zero_iff.1 hL]
    rfl
  | succ n ih =>
    intro L ys hL hf
    rcases List.eq_nil_or_concat L with h | ⟨l, a, h⟩
    · rw [h] at hL; cases hL
    · rw [List.concat_eq_append] at h
      subst h
      rw [List.length_append, List.length_singleton] at hL
      rw [List.flatMap_append, List.append_assoc]
      unfold manyR
      rw [thenR_ok (ih l _ (by omega) (fun a ha => hf a (List.mem_append_left _ ha))), List.flatMap_singleton, thenR_ok (hf a (List.mem_append_right _ (List.mem_singleton.2 rfl)) _), List.map_append]
      rfl
theorem manyR_inv {α : Type} {f : List Int → Rd α} {enc : α → List Int} {W : α → Prop} (hf : ∀ ys a zs, Byt ys → f ys = .ok (a, zs) → ys = enc a ++ zs ∧ W a) : ∀ (n : Nat) (xs : List Int) (L : List α) (ys : List Int), Byt xs → manyR f n xs = .ok (L, ys) → xs = L.flatMap enc ++ ys ∧ L.length = n ∧ ∀ a ∈ L, W a := by
  intro n
  induction n with
  | zero =>
    intro xs L ys hb h
    unfold manyR at h
    injection h with h
    injection h with h1 h2
    subst h1 h2
    exact ⟨rfl, rfl, fun a ha => by cases ha⟩
  | succ n ih =>
    intro xs L ys hb h
    unfold manyR at h
    obtain ⟨l, a, h1, h⟩ := thenR_inv h
    obtain ⟨x, b, h2, h⟩ := thenR_inv h
    obtain ⟨e1, e2, e3⟩ := ih _ _ _ hb h1
    rw [e1] at hb
    obtain ⟨e4, e5⟩ := hf _ _ _ (byt_right hb) h2
    injection h with h
    injection h with h3 h4
    subst h3 h4
    refine ⟨?_, by rw [List.length_append, e2]; rfl, fun y hy => ?_⟩
    · rw [List.flatMap_append, List.flatMap_singleton, List.append_assoc, ← e4, ← e1]
    · rcases List.mem_append.1 hy with h | h
      · exact e3 y h
      · rw [List.mem_singleton.1 h]; exact e5
def canonRec (r : Rec) : Rec := (r.1, r.2.1, r.2.2.1, r.2.2.2.map canonCmd)
theorem fnz_all (f : Nat → Int) : ∀ m k, fnz f m k = 0 → ∀ j, k ≤ j → j < k + m → f j = 0
  | 0, k, _, j, h1, h2 => by omega
  | m + 1, k, h, j, h1, h2 => by
    unfold fnz at h
    by_cases hk : f k = 0
    · rw [if_pos hk] at h
      rcases Nat.eq_or_lt_of_le h1 with e | e
      · rw [← e]; exact hk
      · exact fnz_all f m (k + 1) h j e (by omega)
    · rw [if_neg hk] at h; exact absurd h hk
theorem errId_ok {a : Int × Int} (h : errId a = 0) : 0 ≤ a.1 ∧ a.1 < 8 ∧ 1 ≤ a.2 ∧ a.2 ≤ 1048576 := by
  unfold errId at h
  split at h
  · cases h
  · split at h
    · cases h
    · omega
theorem errBat_zero {L : List Cmd} (h : errBat L = 0) : L.length ≤ 8 ∧ ∀ c ∈ L, cmdOk c := by
  unfold errBat at h
  split at h
  · cases h
  · rename_i h8
    by_cases hb : batOk L
    · refine ⟨by omega, fun c hc => ?_⟩
      obtain ⟨i, hi, rfl⟩ := List.mem_iff_getElem.1 hc
      rw [← cmx_eq hi]
      exact hb i hi
    · rw [cdec_false hb] at h; cases h
theorem errBat_canon {L : List Cmd} (h : errBat L = 0) : errBat (L.map canonCmd) = 0 := by
  obtain ⟨h1, h2⟩ := errBat_zero h
  refine errBat_ok (by rw [List.length_map]; omega) fun i hi => ?_
  rw [List.length_map] at hi
  rw [cmx_eq (by rw [List.length_map]; exact hi), List.getElem_map]
  exact cmdOk_canon (h2 _ (List.getElem_mem hi))
theorem errRec_zero {r : Rec} (h : errRec r = 0) : errId r.1 = 0 ∧ 1 ≤ r.2.1 ∧ r.2.1 ≤ 1073741824 ∧ r.2.2.1.length ≤ 16 ∧ (∀ a ∈ r.2.2.1, errId a = 0) ∧ errBat r.2.2.2 = 0 := by
  unfold errRec at h
  by_cases h1 : errOwn r.1 r.2.1 = 0
  · rw [if_pos h1] at h
    by_cases h2 : errDeps r.1 r.2.2.1 = 0
    · rw [if_pos h2] at h
      unfold errOwn at h1
      split at h1
      · rename_i h3
        split at h1
        · cases h1
        · rename_i h4
          unfold errDeps at h2
          split at h2
          · cases h2
          · rename_i h5
            refine ⟨h3, by omega, by omega, by omega, fun a ha => ?_, h⟩
            obtain ⟨i, hi, rfl⟩ := List.mem_iff_getElem.1 ha
            have h6 := fnz_all _ _ _ h2 i (by omega) (by omega)
            unfold errDep at h6
            rw [ida_eq hi] at h6
            split at h6
            · rename_i h7; exact h7
            · rename_i h7; exact absurd h6 h7
      · rename_i h3; exact absurd h1 h3
    · rw [if_neg h2] at h; exact absurd h h2
  · rw [if_neg h1] at h; exact absurd h h1
theorem errRec_canon {r : Rec} (h : errRec r = 0) : errRec (canonRec r) = 0 := by
  have hb := errBat_canon (errRec_zero h).2.2.2.2.2
  unfold errRec at h ⊢
  by_cases h1 : errOwn r.1 r.2.1 = 0
  · rw [if_pos h1] at h
    by_cases h2 : errDeps r.1 r.2.2.1 = 0
    · show (if errOwn r.1 r.2.1 = 0 then (if errDeps r.1 r.2.2.1 = 0 then errBat (r.2.2.2.map canonCmd) else errDeps r.1 r.2.2.1) else errOwn r.1 r.2.1) = 0
      rw [if_pos h1, if_pos h2]; exact hb
    · rw [if_neg h2] at h; exact absurd h h2
  · rw [if_neg h1] at h; exact absurd h h1
theorem readR_ok {r : Rec} (h : errRec r = 0) (hg : ∀ c ∈ r.2.2.2, CmdGood c) : readR (encRec r) = .ok (canonRec r) := by
  obtain ⟨h1, h2, h3, h4, h5, h6⟩ := errRec_zero h
  obtain ⟨h7, h8⟩ := errBat_zero h6
  obtain ⟨a0, a1, a2, a3⟩ := errId_ok h1
  have hc := errRec_canon h
  obtain ⟨⟨i1, i2⟩, q, D, B⟩ := r
  simp only at h1 h2 h3 h4 h5 h6 h7 h8 a0 a1 a2 a3 hg
  unfold readR encRec
  simp only
  rw [thenR_ok (numR_ok (by omega) _), thenR_ok (numR_ok (by omega) _), thenR_ok (numR_ok (by omega) _), thenR_ok (numR_ok (by omega) _), if_neg (by omega),
    thenR_ok (manyR_ok (g := fun a => a) D.length D _ rfl (fun a ha ys => by
      obtain ⟨b0, b1, b2, b3⟩ := errId_ok (h5 a ha)
      exact idR_ok b0 (by omega) (by omega) (by omega) ys)), thenR_ok (numR_ok (by omega) _), if_neg (by omega)]
  have hB := manyR_ok (f := cmdR) (enc := encCmd) (g := canonCmd) B.length B [] rfl (fun c hc ys => cmdR_ok (h8 c hc) (hg c hc) ys)
  rw [List.append_nil] at hB
  rw [thenR_ok hB]
  unfold endR
  have hr : (((i1.toNat : Nat) : Int), ((i2.toNat : Nat) : Int)) = (i1, i2) := by rw [Int.toNat_of_nonneg a0, Int.toNat_of_nonneg (by omega)]
  rw [if_pos rfl, hr, Int.toNat_of_nonneg (by omega), List.map_id']
  show (if errRec (canonRec ((i1, i2), q, D, B)) = 0 then _ else _) = _
  rw [if_pos hc]
  rfl
theorem readR_inv {xs : List Int} {r : Rec} (hb : Byt xs) (h : readR xs = .ok r) : encRec r = xs ∧ errRec r = 0 ∧ canonRec r = r ∧ ∀ c ∈ r.2.2.2, CmdGood c := by
  unfold readR at h
  obtain ⟨i1, a, h1, h⟩ := thenR_inv h
  obtain ⟨e1, _⟩ := numR_inv hb h1
  rw [e1] at hb
  obtain ⟨i2, b, h2, h⟩ := thenR_inv h
  obtain ⟨e2, _⟩ := numR_inv (byt_right hb) h2
  rw [e2] at hb
  obtain ⟨q, c, h3, h⟩ := thenR_inv h
  obtain ⟨e3, _⟩ := numR_inv (byt_right (byt_right hb)) h3
  rw [e3] at hb
  obtain ⟨nd, d, h4, h⟩ := thenR_inv h
  obtain ⟨e4, _⟩ := numR_inv (byt_right (byt_right (byt_right hb))) h4
  rw [e4] at hb
  split at h
  · cases h
  · obtain ⟨D, e, h5, h⟩ := thenR_inv h
    obtain ⟨e5, l5, _⟩ := manyR_inv (enc := encId) (W := fun _ => True) (fun ys a zs hy h => ⟨idR_inv hy h, trivial⟩) _ _ _ _ (byt_right (byt_right (byt_right (byt_right hb)))) h5
    rw [e5] at hb
    obtain ⟨nb, f, h6, h⟩ := thenR_inv h
    obtain ⟨e6, _⟩ := numR_inv (byt_right (byt_right (byt_right (byt_right (byt_right hb))))) h6
    rw [e6] at hb
    split at h
    · cases h
    · obtain ⟨B, g, h7, h⟩ := thenR_inv h
      obtain ⟨e7, l7, w7⟩ := manyR_inv (enc := encCmd) (W := fun c : Cmd => canonCmd c = c ∧ c.2.1.size ≤ 12 ∧ c.2.2 < 18446744073709551616) (fun ys a zs hy h => cmdR_inv hy h) _ _ _ _ (byt_right (byt_right (byt_right (byt_right (byt_right (byt_right hb)))))) h7
      unfold endR at h
      split at h
      · rename_i hg
        split at h
        · rename_i he
          injection h with h
          subst h
          refine ⟨?_, he, ?_, fun c hc => ⟨Nat.le_trans (w7 c hc).2.1 (by decide), (w7 c hc).2.2⟩⟩
          · unfold encRec
            simp only [Int.toNat_natCast]
            rw [e1, e2, e3, e4, e5, e6, e7, hg, List.append_nil, l5, l7]
          · unfold canonRec
            have : B.map canonCmd = B := by
              conv => rhs; rw [← List.map_id' B]
              exact List.map_congr_left fun c hc => (w7 c hc).1
            simp only [this]
        · cases h
      · cases h
end Go.Proofs.Ytelfpnpplknlpaa
