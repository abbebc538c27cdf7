/- Texts of Cod, merged (25 of 27): DigL, Reg, DigN, Law11, Dam11, OpenT, OpenS, OpenC, OpenR, OpenV, Law. -/
import Derived.Test.YtelfpnpplknlpaaGCod12
import Derived.Test.YtelfpnpplknlpaaGCod8
import Derived.Test.YtelfpnpplknlpaaGCod15
import Derived.Lib.SlBytesConst
import Derived.Test.YtelfpnpplknlpaaGCod14
import Derived.Test.YtelfpnpplknlpaaGCod24
import Derived.Test.YtelfpnpplknlpaaGCod3
import Derived.Test.YtelfpnpplknlpaaGCod4
import Derived.Test.YtelfpnpplknlpaaGCod5
import Derived.Test.YtelfpnpplknlpaaGCod1
import Derived.ProofKit
import Derived.OpenShut
set_option linter.unusedVariables false
set_option linter.unusedSimpArgs false
/- Layer 10's works, and what opening what was sealed gives (plain). -/
namespace Go.Proofs.Ytelfpnpplknlpaa
open Go.RowKit
open Go.Proofs.YtelfpnpplknlpaaW.PrintWords

theorem rd_litm (w : World) (xs : List Int) (fr : Nat × Nat) (hm : xs.length ≤ 9223372036854775807) : RdB (w.alloc (.cells (nums .u8 xs).toArray 5 fr)) (some ⟨w.heap.size, 0, none⟩) xs := by
  have h := rd_lit w xs hm
  refine ⟨h.1, h.2.1, fun hn => ?_⟩
  obtain ⟨ad, e, hc⟩ := h.2.2 hn
  injection e with e
  subst e
  refine ⟨_, rfl, fun j hj => ?_⟩
  have := hc j hj
  have hadd : (⟨w.heap.size, 0, none⟩ : Addr).add j = ⟨w.heap.size, j, none⟩ := by unfold Addr.add; split <;> simp_all
  rw [hadd, World.cell?_alloc_mark] at this ⊢
  exact this
theorem be8_len (m : Nat) : (be8 m).length = 8 := rfl
theorem seal_ok (xs : List Int) : dOf ((xs ++ be8 (dOf xs)).take xs.length) = beVal ((xs ++ be8 (dOf xs)).drop xs.length) := by
  rw [List.take_left, List.drop_left, beVal_be8 (dOf_lt xs)]
theorem seal_byt {xs : List Int} (h : Byt xs) : Byt (xs ++ be8 (dOf xs)) := h.append (beTo_byt _ 8)
theorem dig_a : dOf [97] = 12638187200555641996 := by decide +kernel
theorem str_abc : strOfNums [97, 98, 99] = ⟨#[97, 98, 99]⟩ := by decide +kernel

/-- What was sealed is opened. -/
theorem open_sealed (A : Option Addr) (xs : List Int) (c : Nat) (w : World) (hc : xs.length + 8 ≤ c) (hr : RdB w A (xs ++ be8 (dOf xs))) (hx : Byt xs) (hl : xs.length ≤ 140737488355300) :
    Calls Try.prog 16 #[.slice A (xs ++ be8 (dOf xs)).length c] w fun r w' => ∃ v, r = .returned (.tuple #[v, .int .i64 0]) ∧ OwB w' w.heap.size v xs ∧ Fr (fun _ => False) w w' := by
  have hlen : (xs ++ be8 (dOf xs)).length = xs.length + 8 := by rw [List.length_append, be8_len]
  have h := dig_open_ok A (xs ++ be8 (dOf xs)) c xs.length w hlen (by omega) hr (seal_byt hx) (by omega) (seal_ok xs)
  rw [List.take_left] at h
  exact h

end Go.Proofs.Ytelfpnpplknlpaa
/- A drawing region with calls, step by step, the second form: a base world w0; an operation that yields in every world later than w0 may be taken first; behind a call the base may be moved up. No program in sight. -/
namespace Go.Proofs.Ytelfpnpplknlpaa

section
variable {P : Program} {Q : Exit → Act → World → Prop} {md : Region.Mode} {w0 : World}

theorem rh_start (n : Nat) {id : Nat} {l : List Oper} {a : Act} {w : World} (hm : P.follows .mixedOrders = true) (hn : l.length = n)
    (h : wpAnyH P .any l.toArray Q (Later w.drew) n (Array.replicate n false) a w.drew) : (Code.region id l.toArray true).wp P Q a w := by
  subst hn
  exact wp_region_held hm h

theorem rh_take (i : Nat) {l : List Oper} {oi : Oper} {v : Value} {fuel : Nat} {listed : Array Bool} {a : Act} {w : World} (hi : l[i]? = some oi)
    (hs : Region.noSelect l.toArray = true) (hf : Region.free md l.toArray listed i = true) (hr : (Region.ready md l.toArray listed).contains i = true)
    (hQ : ∀ c a w, Q (.panic c) (a.put oi.dst v) w → Q (.panic c) a w) (hw : Region.wanted oi (yielded l.toArray a.tmps) = true) (hS : Later w0 w)
    (hy : ∀ w', Later w0 w' → (execOp a.eval oi).run P w' = .ok (.value v) w')
    (h : wpAnyH P md l.toArray Q (Later w0) fuel (listed.setIfInBounds i true) (a.put oi.dst v) w) : wpAnyH P md l.toArray Q (Later w0) (fuel + 1) listed a w :=
  wpAnyH_take (by rw [List.getElem?_toArray]; exact hi) hs hf hr hQ (.inl ⟨hw, hy⟩) hS h

theorem rh_skip (i : Nat) {l : List Oper} {oi : Oper} {fuel : Nat} {listed : Array Bool} {a : Act} {w : World} (hi : l[i]? = some oi)
    (hs : Region.noSelect l.toArray = true) (hf : Region.free md l.toArray listed i = true) (hr : (Region.ready md l.toArray listed).contains i = true)
    (hQ : ∀ c a w, Q (.panic c) (a.put oi.dst undef) w → Q (.panic c) a w) (hw : Region.wanted oi (yielded l.toArray a.tmps) = false) (hS : Later w0 w)
    (h : wpAnyH P md l.toArray Q (Later w0) fuel (listed.setIfInBounds i true) (a.put oi.dst undef) w) : wpAnyH P md l.toArray Q (Later w0) (fuel + 1) listed a w :=
  wpAnyH_take (by rw [List.getElem?_toArray]; exact hi) hs hf hr hQ (.inr ⟨hw, rfl⟩) hS h

def AllNexth (P : Program) (md : Region.Mode) (l : List Oper) (Q : Exit → Act → World → Prop) (w0 : World) (fuel : Nat) (listed : Array Bool) (a : Act) (w : World) (rs : List Nat) : Prop :=
  ∀ i ∈ rs, wpOp P l.toArray Q i (fun a' w' => ∃ wb, Later w0 wb ∧ Later wb w' ∧ wpAnyH P md l.toArray Q (Later wb) fuel (listed.setIfInBounds i true) a' w') a w

theorem AllNexth.nil {l : List Oper} {fuel : Nat} {listed : Array Bool} {a : Act} {w : World} : AllNexth P md l Q w0 fuel listed a w [] := fun _ h => by cases h

theorem AllNexth.cons {l : List Oper} {fuel : Nat} {listed : Array Bool} {a : Act} {w : World} {i : Nat} {o : Oper} {rs : List Nat} (ho : l[i]? = some o)
    (h : ∀ K' : Act → World → Prop, Shut (∀ a wb w', Later w0 wb → Later wb w' → wpAnyH P md l.toArray Q (Later wb) fuel (listed.setIfInBounds i true) a w' → K' a w') → if Region.wanted o (yielded l.toArray a.tmps) = true then Oper.wp P o a w K' Q else K' (a.put o.dst undef) w)
    (hs : AllNexth P md l Q w0 fuel listed a w rs) : AllNexth P md l Q w0 fuel listed a w (i :: rs) := fun j hj => by
  rcases List.mem_cons.1 hj with rfl | hj
  · exact wpOp_step (by rw [List.getElem?_toArray]; exact ho) (fun K' hK => h K' (fun a wb w h1 h2 hW => hK a w ⟨wb, h1, h2, hW⟩))
  · exact hs j hj

theorem rh_ready (rs : List Nat) {l : List Oper} {fuel : Nat} {listed : Array Bool} {a : Act} {w : World} (hr : Region.ready md l.toArray listed = rs) (hne : rs ≠ [])
    (h : AllNexth P md l Q w0 fuel listed a w rs) : wpAnyH P md l.toArray Q (Later w0) (fuel + 1) listed a w :=
  wpAnyH_all hr hne fun i hi => wpOp_mono (fun a' w' ⟨wb, h1, h2, h3⟩ => ⟨h1.trans h2, wpAnyH_mono (fun _ hx => Fr.trans h1 hx) _ _ _ _ h3⟩) (h i hi)

/-- One operation alone may come up. -/
theorem rh_one (i : Nat) {l : List Oper} {o : Oper} {fuel : Nat} {listed : Array Bool} {a : Act} {w : World} (ho : l[i]? = some o) (hr : Region.ready md l.toArray listed = [i])
    (h : ∀ K' : Act → World → Prop, Shut (∀ a wb w', Later w0 wb → Later wb w' → wpAnyH P md l.toArray Q (Later wb) fuel (listed.setIfInBounds i true) a w' → K' a w') → if Region.wanted o (yielded l.toArray a.tmps) = true then Oper.wp P o a w K' Q else K' (a.put o.dst undef) w) :
    wpAnyH P md l.toArray Q (Later w0) (fuel + 1) listed a w :=
  rh_ready [i] hr (by simp) (AllNexth.cons ho h AllNexth.nil)

theorem rh_done {l : List Oper} {listed : Array Bool} {a : Act} {w : World} {S : World → Prop} {fuel : Nat} (hr : Region.ready md l.toArray listed = []) (h : Q .normal a w) : wpAnyH P md l.toArray Q S fuel listed a w :=
  wpAnyH_done hr h fuel
end
end Go.Proofs.Ytelfpnpplknlpaa
/- The law DigestOpens, walked. -/
namespace Go.Proofs.Ytelfpnpplknlpaa
open Go.RowKit
open Go.Proofs.YtelfpnpplknlpaaW.PrintWords

theorem OwB.at0 {w : World} {B n c : Nat} {A : Option Addr} {xs : List Int} (h : OwB w B (.slice A n c) xs) (hn : 0 < xs.length) : ∃ g, A = some ⟨g, 0, none⟩ ∧ B ≤ g ∧ g < w.heap.size := by
  rcases h.2 with ⟨h1, h2⟩ | ⟨g, cap, cur, h1, hb, hh, h2, _⟩
  · omega
  · injection h1 with h3 _ _
    exact ⟨g, h3, hb, (Array.getElem?_eq_some_iff.1 hh).1⟩

end Go.Proofs.Ytelfpnpplknlpaa
/- The laws of the codec: plainly, and what works. -/
namespace Go.Proofs.Ytelfpnpplknlpaa
open Go.RowKit
open Go.Proofs.YtelfpnpplknlpaaW.PrintWords

theorem thenR_err {α β : Type} {a : Rd α} {f : α → List Int → Except Int β} {e : Int} (h : thenR a f = .error e) : a = .error e ∨ ∃ x ys, f x ys = .error e := by
  cases a with
  | error e' =>
    have h1 : e' = e := by injection h
    exact .inl (by rw [h1])
  | ok p => exact .inr ⟨p.1, p.2, h⟩
theorem numR_ne {xs : List Int} {e : Int} (h : numR xs = .error e) : e ≠ 0 := by
  unfold numR at h
  split at h
  · rename_i h0; injection h with h; rw [← h]; exact h0
  · split at h
    · injection h with h; rw [← h]; decide
    · cases h
theorem keyR_ne {xs : List Int} {e : Int} (h : keyR xs = .error e) : e ≠ 0 := by
  unfold keyR at h
  split at h
  · rename_i h0; injection h with h; rw [← h]; exact h0
  · cases h
theorem valR_ne {xs : List Int} {e : Int} (h : valR xs = .error e) : e ≠ 0 := by
  unfold valR at h
  split at h
  · injection h with h; rw [← h]; decide
  · split at h
    · injection h with h; rw [← h]; decide
    · cases h
theorem cmdR_ne {xs : List Int} {e : Int} (h : cmdR xs = .error e) : e ≠ 0 := by
  unfold cmdR at h
  rcases thenR_err h with h | ⟨k, ys, h⟩
  · exact numR_ne h
  · split at h
    · injection h with h; rw [← h]; decide
    · rcases thenR_err h with h | ⟨s, zs, h⟩
      · exact keyR_ne h
      · split at h
        · rcases thenR_err h with h | ⟨v, us, h⟩
          · exact valR_ne h
          · cases h
        · cases h
theorem idR_ne {xs : List Int} {e : Int} (h : idR xs = .error e) : e ≠ 0 := by
  unfold idR at h
  rcases thenR_err h with h | ⟨k, ys, h⟩
  · exact numR_ne h
  · rcases thenR_err h with h | ⟨s, zs, h⟩
    · exact numR_ne h
    · cases h
theorem manyR_ne {α : Type} {f : List Int → Rd α} (hf : ∀ xs e, f xs = .error e → e ≠ 0) : ∀ n (xs : List Int) (e : Int), manyR f n xs = .error e → e ≠ 0
  | 0, xs, e, h => by cases h
  | n + 1, xs, e, h => by
    unfold manyR at h
    rcases thenR_err h with h | ⟨l, ys, h⟩
    · exact manyR_ne hf n xs e h
    · rcases thenR_err h with h | ⟨a, zs, h⟩
      · exact hf _ _ h
      · cases h
theorem readR_ne {xs : List Int} {e : Int} (h : readR xs = .error e) : e ≠ 0 := by
  unfold readR at h
  rcases thenR_err h with h | ⟨_, _, h⟩
  · exact numR_ne h
  rcases thenR_err h with h | ⟨_, _, h⟩
  · exact numR_ne h
  rcases thenR_err h with h | ⟨_, _, h⟩
  · exact numR_ne h
  rcases thenR_err h with h | ⟨_, _, h⟩
  · exact numR_ne h
  split at h
  · injection h with h; rw [← h]; decide
  rcases thenR_err h with h | ⟨_, _, h⟩
  · exact manyR_ne (fun _ _ h => idR_ne h) _ _ _ h
  rcases thenR_err h with h | ⟨_, _, h⟩
  · exact numR_ne h
  split at h
  · injection h with h; rw [← h]; decide
  rcases thenR_err h with h | ⟨_, _, h⟩
  · exact manyR_ne (fun _ _ h => cmdR_ne h) _ _ _ h
  unfold endR at h
  split at h
  · split at h
    · cases h
    · rename_i h0; injection h with h; rw [← h]; exact h0
  · injection h with h; rw [← h]; decide
theorem decR_ne {xs : List Int} {e : Int} (h : decR xs = .error e) : e ≠ 0 := by
  unfold decR at h
  split at h
  · exact readR_ne h
  · rename_i h0; injection h with h; rw [← h]; exact h0
theorem openR_seal (l : List Int) : openR (l ++ be8 (dOf l)) = (l, 0) := by
  have h8 : (be8 (dOf l)).length = 8 := rfl
  unfold openR
  rw [if_neg (by rw [List.length_append, h8]; omega), show (l ++ be8 (dOf l)).length - 8 = l.length from by rw [List.length_append, h8]; omega, List.take_left, List.drop_left, beVal_be8 (dOf_lt l), if_pos rfl]
theorem decR_enc {r : Rec} (h : errRec r = 0) (hg : RecGood r) : decR (encRec r ++ be8 (dOf (encRec r))) = .ok (canonRec r) := by
  unfold decR
  rw [openR_seal, if_pos rfl]
  exact readR_ok h hg
theorem decR_ok {X : List Int} {R : Rec} (hx : Byt X) (h : decR X = .ok R) : X = encRec R ++ be8 (dOf (encRec R)) ∧ errRec R = 0 ∧ canonRec R = R ∧ RecGood R := by
  unfold decR at h
  split at h
  · rename_i h0
    obtain ⟨hby, _⟩ := openR_byt hx
    obtain ⟨e1, e2, e3, e4⟩ := readR_inv hby h
    refine ⟨?_, e2, e3, e4⟩
    rw [e1]
    unfold openR at h0 ⊢
    by_cases h8 : X.length < 8
    · rw [if_pos h8] at h0; cases h0
    · rw [if_neg h8] at h0 ⊢
      by_cases hd : dOf (X.take (X.length - 8)) = beVal (X.drop (X.length - 8))
      · rw [if_pos hd]
        have hs := (sum_iff (l := X.drop (X.length - 8)) (d := dOf (X.take (X.length - 8))) (by rw [List.length_drop]; omega) (fun x hx' => hx x (List.mem_of_mem_drop hx')) (dOf_lt _)).1 hd
        show X = X.take (X.length - 8) ++ be8 (dOf (X.take (X.length - 8)))
        rw [← hs, List.take_append_drop]
      · rw [if_neg hd] at h0; cases h0
  · cases h
theorem decR_damaged {l : List Int} (hx : Byt l) (k : Nat) (y : Int) (h0 : 0 ≤ y) (h1 : y ≤ 255) (hk : k < (l ++ be8 (dOf l)).length) (hne : (l ++ be8 (dOf l)).getD k 0 ≠ y) : decR ((l ++ be8 (dOf l)).set k y) = .error 21 := by
  have hs := seal_changed hx k y h0 h1 hk hne
  have h8 : (be8 (dOf l)).length = 8 := rfl
  have hl : ((l ++ be8 (dOf l)).set k y).length = l.length + 8 := by rw [List.length_set, List.length_append, h8]
  have ho : openR ((l ++ be8 (dOf l)).set k y) = ([], 21) := by
    unfold openR
    rw [if_neg (by rw [hl]; omega), hl, show l.length + 8 - 8 = l.length from by omega, if_neg hs]
  unfold decR
  rw [ho]
  rfl
theorem recS_canon {r R : Rec} (h : canonRec r = R) (hg : ∀ x ∈ r.2.2.2, x.2.2 < 18446744073709551616) : recS R r := by
  subst h
  refine ⟨rfl, rfl, rfl, ?_, fun i hi => ?_⟩
  · show (r.2.2.2.map canonCmd).length = _
    rw [List.length_map]
  · have hi' : i < r.2.2.2.length := by
      have h1 : i < (r.2.2.2.map canonCmd).length := hi
      rwa [List.length_map] at h1
    show cmdS (cmx (r.2.2.2.map canonCmd) i) (cmx r.2.2.2 i)
    rw [cmx_eq (by rw [List.length_map]; exact hi'), List.getElem_map, cmx_eq hi']
    exact ⟨rfl, rfl, key_canonP (hg _ (List.getElem_mem hi'))⟩
theorem encRec_len {r : Rec} (h : errRec r = 0) : (encRec r).length ≤ 1000 := by
  obtain ⟨h1, h2, h3, h4, h5, h6⟩ := errRec_zero h
  obtain ⟨b1, b2⟩ := errBat_zero h6
  obtain ⟨a0, a1, a2, a3⟩ := errId_ok h1
  have d1 := digs_len10 (m := r.1.1.toNat) (by omega)
  have d2 := digs_len10 (m := r.1.2.toNat) (by omega)
  have d3 := digs_len10 (m := r.2.1.toNat) (by omega)
  have d4 := digs_len10 (m := r.2.2.1.length) (by omega)
  have d5 := digs_len10 (m := r.2.2.2.length) (by omega)
  have d6 := flat_le (L := r.2.2.1) (f := encId) (n := 20) (fun a ha => encId_len (h5 a ha))
  have d7 := flat_le (L := r.2.2.2) (f := encCmd) (n := 40) (fun c hc => encCmd_len (b2 c hc))
  unfold encRec
  simp only [List.length_append]
  omega
def r11 : Rec := ((1, 2), 3, [], [])
theorem err11 : errRec r11 = 0 := by
  have h1 : errBat [] = 0 := errBat_ok (by decide) (fun i hi => by cases hi)
  unfold errRec
  rw [if_pos (by decide), if_pos (by decide)]
  exact h1
theorem enc11 : encRec r11 = [1, 2, 3, 0, 0] := by
  unfold encRec r11
  simp [digs_small]
theorem str11 : (strOfNums [1, 2, 3, 0, 0]).toList = [1, 2, 3, 0, 0] := by decide +kernel
set_option maxRecDepth 100000 in
theorem works11 (w : World) : Calls Try.prog 6 #[] w fun r w' => r = .returned (.bool true) ∧ Fr (fun _ => False) w w' := by
  have HR := Lib.hid (show ∀ w, RecAt w r11 none none 0 0 from fun w => ⟨Nat.le_refl _, Nat.le_refl _, Kd.C_nil _ _, Kd.C_nil _ _⟩)
  have HE := Lib.hid (cod_encode r11 none none 0 0 w (HR.out w) (fun x hx => by cases hx))
  obtain ⟨l, hl⟩ : ∃ l, l = encRec r11 ++ be8 (dOf (encRec r11)) := ⟨_, rfl⟩
  have hl5 : l.take 5 = [1, 2, 3, 0, 0] := by rw [hl, enc11]; rfl
  have hl13 : l.length = 13 := by rw [hl, enc11]; rfl
  have hby : Byt l := by rw [hl]; exact (encRec_byt err11).append (beTo_byt _ 8)
  have hdec : decR l = .ok (canonRec r11) := by rw [hl]; exact decR_enc err11 (fun x hx => by cases hx)
  have HL := Lib.hid (And.intro hl5 (And.intro hl13 (And.intro hby hdec)))
  have HLL := Lib.hid hl
  clear hl hl5 hl13 hby hdec
  go_enter Try.func6, Try.ntmps6
  go_wp2_with fail
  refine HE.out.mono ?_
  rintro r w1 ⟨hF1, _, h2⟩
  obtain ⟨v, rfl, ho⟩ := h2 err11
  rw [← HLL.out] at ho
  obtain ⟨A, c, rfl, _⟩ := ho.reads
  have HO := Lib.hid ho
  have HF1 := Lib.hid hF1
  clear h2 ho hF1
  rw [HL.out.2.1]
  go_wp2_with fail
  have hdec := cod_decode A l c w1 HO.out.cap HO.out.rdb HL.out.2.2.1 (by rw [HL.out.2.1]; decide)
  rw [HL.out.2.1] at hdec
  refine hdec.mono ?_
  rintro r w2 ⟨hF2, hm⟩
  rw [HL.out.2.2.2] at hm
  obtain ⟨Ad, Ab, cd, cb, rfl, hR2⟩ := hm
  obtain ⟨ys, hcut, hy⟩ := cut_to8 A c l 5 (by rw [HL.out.2.1]; decide) HO.out.cap
  rw [HL.out.2.1] at hcut
  rw [HL.out.1] at hy
  obtain rfl := hy.out.1
  replace hcut : ∀ W : World, (Instr.slice 22 (.slice A 13 c) none (some (.int .i64 5)) none).run Try.prog W = .ok (.slice A 5 c) W := hcut
  have HF2 := Lib.hid (HF1.out.trans hF2)
  have hb3 := Blk.new w2 32 #[.int .i64 1, .int .i64 2, .int .i64 3, .slice Ad 0 cd, .slice Ab 0 cb]
  have HF3 := Lib.hid (HF2.out.alloc (.cells #[.int .i64 1, .int .i64 2, .int .i64 3, .slice Ad 0 cd, .slice Ab 0 cb] 32))
  have hcv := conv_str8 (c := c) (hy.out.2.2 _ ((HO.out.fr hF2 (fun _ _ _ h => h)).rdb.fr ((Fr.refl (fun _ => False) w2).alloc (.cells #[.int .i64 1, .int .i64 2, .int .i64 3, .slice Ad 0 cd, .slice Ab 0 cb] 32)) (fun _ _ h => h)))
  replace hcv : (convert 22 9 (.slice A 5 c)).run Try.prog (w2.alloc (.cells #[.int .i64 1, .int .i64 2, .int .i64 3, .slice Ad 0 cd, .slice Ab 0 cb] 32)) = .ok (.string (strOfNums [1, 2, 3, 0, 0])) (w2.alloc (.cells #[.int .i64 1, .int .i64 2, .int .i64 3, .slice Ad 0 cd, .slice Ab 0 cb] 32)) := hcv
  have hst := str11
  rw [show recV (canonRec r11) Ad Ab cd cb = .agg #[.int .i64 1, .int .i64 2, .int .i64 3, .slice Ad 0 cd, .slice Ab 0 cb] from rfl]
  have s2 := hb3.cell 2
  simp only [List.getElem?_toArray, List.getElem?_cons_zero, List.getElem?_cons_succ] at s2
  clear hdec hR2 hF2 hb3 hy
  go_wp2_with fail
  go_ret
  exact ⟨rfl, HF3.out⟩
end Go.Proofs.Ytelfpnpplknlpaa
/- The law CodecDamaged, walked. -/
namespace Go.Proofs.Ytelfpnpplknlpaa
open Go.RowKit
open Go.Proofs.YtelfpnpplknlpaaW.PrintWords

set_option maxRecDepth 100000 in
set_option maxHeartbeats 1000000 in
theorem lawDamaged11 (r : Rec) (Ad Ab : Option Addr) (cd cb : Nat) (at_ by_ : Int) (w : World) (h : RecAt w r Ad Ab cd cb) (hg : RecGood r) (ha0 : 0 ≤ at_) (ha1 : at_ ≤ 65535) (hb0 : 0 ≤ by_) (hb9 : by_ ≤ 255) :
    Calls Try.prog 4 #[recV r Ad Ab cd cb, .int .u16 at_, .int .u8 by_] w fun e w' => e = .returned (.bool true) ∧ Fr (fun _ => False) w w' := by
  obtain ⟨⟨i1, i2⟩, q, D, B⟩ := r
  have hF := (Fr.refl (fun _ => False) w).alloc (.cells #[.int .i64 i1, .int .i64 i2, .int .i64 q, .slice Ad D.length cd, .slice Ab B.length cb] 32)
  have HX := Lib.hid (Blk.new w 32 #[.int .i64 i1, .int .i64 i2, .int .i64 q, .slice Ad D.length cd, .slice Ab B.length cb])
  have HC := Lib.hid (cod_encode ((i1, i2), q, D, B) Ad Ab cd cb _ (h.fr hF) hg)
  have HF := Lib.hid hF
  have HA := Lib.hid h
  have HG := Lib.hid hg
  have x0 := HX.out.cell 0
  have x1 := HX.out.cell 1
  have x2 := HX.out.cell 2
  have x3 := HX.out.cell 3
  have x4 := HX.out.cell 4
  simp only [List.getElem?_toArray, List.getElem?_cons_zero, List.getElem?_cons_succ] at x0 x1 x2 x3 x4
  obtain ⟨e, he⟩ : ∃ e, e = errRec ((i1, i2), q, D, B) := ⟨_, rfl⟩
  have HE := Lib.hid he
  clear hF h hg
  by_cases h0 : e = 0
  · have HZ := Lib.hid (show errRec ((i1, i2), q, D, B) = 0 from he.symm.trans h0)
    obtain ⟨l, hl⟩ : ∃ l, l = encRec ((i1, i2), q, D, B) := ⟨_, rfl⟩
    obtain ⟨S, hS⟩ : ∃ S, S = l ++ be8 (dOf l) := ⟨_, rfl⟩
    have hS8 : S.length = l.length + 8 := by rw [hS, List.length_append]; rfl
    have hlb : l.length ≤ 1000 := by rw [hl]; exact encRec_len HZ.out
    have HLB := Lib.hid (show Byt l from by rw [hl]; exact encRec_byt HZ.out)
    have HSB := Lib.hid (show Byt S from by rw [hS]; exact HLB.out.append (beTo_byt _ 8))
    have HDE := Lib.hid (show decR S = .ok (canonRec ((i1, i2), q, D, B)) from by rw [hS, hl]; exact decR_enc HZ.out HG.out)
    have HS := Lib.hid hS
    have HSE := Lib.hid (show S = encRec ((i1, i2), q, D, B) ++ be8 (dOf (encRec ((i1, i2), q, D, B))) from by rw [hS, hl])
    obtain ⟨n, hn⟩ : ∃ n, n = S.length := ⟨_, rfl⟩
    have HN := Lib.hid hn
    have hnb : 8 ≤ n ∧ n ≤ 1008 := by omega
    have HNB := Lib.hid hnb
    obtain ⟨k, hk, hk9⟩ : ∃ k : Nat, at_.tmod (n : Int) = (k : Int) ∧ k < n := by
      have h1 := Int.tmod_nonneg (n : Int) ha0
      have h2 := Int.tmod_lt_of_pos at_ (show (0 : Int) < (n : Int) by omega)
      exact ⟨(at_.tmod (n : Int)).toNat, by omega, by omega⟩
    have hk2 : at_ % (n : Int) = (k : Int) := by rw [← hk]; exact (Int.tmod_eq_emod_of_nonneg ha0).symm
    have tn : ((n : Int) == 0) = false := by simp; omega
    have tn2 : (n == 0) = false := by simp; omega
    clear hl hS hS8 hlb he h0 hn
    go_enter Try.func4, Try.ntmps4
    go_wp2_with fail
    refine HC.out.mono ?_
    rintro r w1 ⟨hF1, _, h2⟩
    obtain ⟨v, rfl, ho⟩ := h2 HZ.out
    rw [← HSE.out] at ho
    obtain ⟨A1, c1, rfl, _⟩ := ho.reads
    obtain ⟨gS, rfl, hg1, hg2⟩ := ho.at0 (by rw [← HN.out]; omega)
    have HCAP := Lib.hid ho.cap
    obtain ⟨hcell, hfz⟩ := own_at ho k (by omega) (by rw [← HN.out]; omega)
    rw [← HN.out]
    have HO := Lib.hid ho
    have HF1 := Lib.hid (HF.out.trans hF1)
    simp only [Int.toNat_natCast] at hcell hfz
    have hx0 := HSB.out _ (rd_mem (show k < S.length by rw [← HN.out]; omega))
    generalize hxv : rd S k = x at hcell hx0
    have HXV := Lib.hid hxv
    have hcc : (n : Int) ≤ (c1 : Int) := by have := HCAP.out; rw [← HN.out] at this; omega
    clear h2 ho hF1 x0 x1 x2 x3 x4 hxv
    go_wp2_with fail
    have hos3 := (own_store HO.out k ((x + by_) % 256)).1
    simp only [Int.toNat_natCast] at hos3
    obtain ⟨y, hy⟩ : ∃ y, y = (x + by_) % 256 := ⟨_, rfl⟩
    rw [← hy] at hos3 ⊢
    have hy0 : 0 ≤ y ∧ y ≤ 255 := by omega
    have hyx : by_ = 0 ∨ x ≠ y := by omega
    have hye : by_ = 0 → y = x := by omega
    have hgd : S.getD k 0 = x := by rw [← HXV.out]; rfl
    have hlen : (S.set k y).length = n := by rw [List.length_set, HN.out]
    have HZ3 := Lib.hid (show OwB (w1.setCell ⟨gS, k, none⟩ (.int .u8 y)) (w.alloc (.cells #[.int .i64 i1, .int .i64 i2, .int .i64 q, .slice Ad D.length cd, .slice Ab B.length cb] 32)).heap.size (.slice (some ⟨gS, 0, none⟩) (S.set k y).length c1) (S.set k y) from by
      show World.ownsRow _ _ _ _ _ _ _
      rw [List.length_set]
      exact hos3)
    have HF3 := Lib.hid (HF1.out.setCell (p := ⟨gS, k, none⟩) (.inr (by have := HF.out.size; show w.heap.size ≤ gS; omega)) (.int .u8 y))
    have hdc := cod_decode (some ⟨gS, 0, none⟩) (S.set k y) c1 _ HZ3.out.cap HZ3.out.rdb (set_byt HSB.out hy0.1 hy0.2) (by rw [hlen]; omega)
    rw [hlen] at hdc
    have hres : decR (S.set k y) = if by_ = 0 then .ok (canonRec ((i1, i2), q, D, B)) else .error 21 := by
      by_cases hb : by_ = 0
      · rw [if_pos hb, show S.set k y = S from by rw [hye hb, ← hgd]; exact set_same (by rw [← HN.out]; omega)]
        exact HDE.out
      · rw [if_neg hb, HS.out]
        exact decR_damaged HLB.out k y hy0.1 hy0.2 (by rw [← HS.out, ← HN.out]; exact hk9) (by rw [← HS.out, hgd]; rcases hyx with h | h; exact absurd h hb; exact h)
    rw [hres] at hdc
    have HDC := Lib.hid hdc
    clear hos3 hy hy0 hyx hye hgd hlen hdc hres hcell hfz hx0
    refine HDC.out.mono ?_
    rintro r w4 ⟨hF4, hm⟩
    have HF4 := Lib.hid (HF3.out.trans hF4)
    clear hF4 HZ3
    by_cases hb : by_ = 0
    · rw [if_pos hb] at hm
      obtain ⟨Ae, Af, ce, cf, rfl, _⟩ := hm
      subst hb
      go_wp2_with fail
      refine (works11 _).mono ?_
      rintro r w5 ⟨rfl, hF5⟩
      have HF5 := Lib.hid (HF4.out.trans hF5)
      clear hF5
      go_wp2_with fail
      go_ret
      exact ⟨rfl, HF5.out⟩
    · rw [if_neg hb] at hm
      subst hm
      have tb : (by_ == 0) = false := by simpa using hb
      clear hb
      go_wp2_with fail
      refine (works11 _).mono ?_
      rintro r w5 ⟨rfl, hF5⟩
      have HF5 := Lib.hid (HF4.out.trans hF5)
      clear hF5
      go_wp2_with fail
      go_ret
      exact ⟨rfl, HF5.out⟩
  · have te : (e != 0) = true := by simpa using h0
    have HN := Lib.hid (show errRec ((i1, i2), q, D, B) ≠ 0 from fun h => h0 (he.trans h))
    clear h0 he
    go_enter Try.func4, Try.ntmps4
    go_wp2_with fail
    refine HC.out.mono ?_
    rintro r w1 ⟨hF1, h1, _⟩
    obtain rfl := h1 HN.out
    rw [← HE.out]
    have HF1 := Lib.hid (HF.out.trans hF1)
    have HX1 := Lib.hid (HX.out.fr hF1 (fun h => h))
    clear h1 hF1 x0 x1 x2 x3 x4
    have x0 := HX1.out.cell 0
    have x1 := HX1.out.cell 1
    have x2 := HX1.out.cell 2
    have x3 := HX1.out.cell 3
    have x4 := HX1.out.cell 4
    simp only [List.getElem?_toArray, List.getElem?_cons_zero, List.getElem?_cons_succ] at x0 x1 x2 x3 x4
    go_wp2_with fail
    refine (ref_check ((i1, i2), q, D, B) Ad Ab cd cb _ (HA.out.fr HF1.out) HG.out).mono ?_
    rintro r w2 ⟨rfl, hF2⟩
    rw [← HE.out]
    have HF2 := Lib.hid (HF1.out.trans hF2)
    clear hF2
    go_wp2_with fail
    refine (works11 _).mono ?_
    rintro r w3 ⟨rfl, hF3⟩
    have HF3 := Lib.hid (HF2.out.trans hF3)
    clear hF3
    go_wp2_with fail
    go_ret
    exact ⟨rfl, HF3.out⟩
end Go.Proofs.Ytelfpnpplknlpaa
/- Structs of three and four fields, read as pairs of pairs. -/
namespace Go.Proofs.Ytelfpnpplknlpaa
open Go.ChangeShapes Go.WideShapes Go.ChangeAt Go.RowKit
open Go.Proofs.YtelfpnpplknlpaaW.PrintWords

theorem opens_struct3 {P : Program} {t : TypeId} {f0 f1 f2 : Field} {α β γ : Type} {a : Kd α} {b : Kd β} {c : Kd γ} {Wa : α → Prop} {Wb : β → Prop} {Wc : γ → Prop} (ht : P.underlying t = some (.struct #[f0, f1, f2]))
    (h0 : Opens P f0.type a Wa) (h1 : Opens P f1.type b Wb) (h2 : Opens P f2.type c Wc) (c0 : P.cellsOf f0.type = a.sz) (c1 : P.cellsOf f1.type = b.sz) (c2 : P.cellsOf f2.type = c.sz)
    (o0 : f0.offset = 0) (o1 : f1.offset = a.sz) (o2 : f2.offset = a.sz + b.sz) (ct : P.cellsOf t = a.sz + b.sz + c.sz) :
    Opens P t (Kd.pair a (Kd.pair b c)) (fun x => Wa x.1 ∧ Wb x.2.1 ∧ Wc x.2.2) := by
  intro H enc w fuel cs x hx
  obtain ⟨xs, n, _, _, hl, hlen, hf⟩ := DataW.trod_struct ht hx
  have g0 := hf 0 f0 rfl
  have g1 := hf 1 f1 rfl
  have g2 := hf 2 f2 rfl
  have hlen' : xs.length = 3 := hlen
  rw [List.getElem?_eq_getElem (by omega)] at g0 g1 g2
  obtain ⟨y0, k0, w0⟩ := h0 g0
  obtain ⟨y1, k1, w1⟩ := h1 g1
  obtain ⟨y2, k2, w2⟩ := h2 g2
  rw [o0, c0, List.drop_zero] at k0
  rw [o1, c1] at k1
  rw [o2, c2, ← List.drop_drop] at k2
  refine ⟨(y0, y1, y2), ⟨_, _, ?_, k0, _, _, rfl, k1, k2⟩, w0, w1, w2⟩
  rw [List.take_of_length_le (l := (cs.drop a.sz).drop b.sz) (by rw [List.length_drop, List.length_drop]; omega), List.take_append_drop, List.take_append_drop]
theorem opens_struct4 {P : Program} {t : TypeId} {f0 f1 f2 f3 : Field} {α β γ δ : Type} {a : Kd α} {b : Kd β} {c : Kd γ} {d : Kd δ} {Wa : α → Prop} {Wb : β → Prop} {Wc : γ → Prop} {Wd : δ → Prop} (ht : P.underlying t = some (.struct #[f0, f1, f2, f3]))
    (h0 : Opens P f0.type a Wa) (h1 : Opens P f1.type b Wb) (h2 : Opens P f2.type c Wc) (h3 : Opens P f3.type d Wd) (c0 : P.cellsOf f0.type = a.sz) (c1 : P.cellsOf f1.type = b.sz) (c2 : P.cellsOf f2.type = c.sz) (c3 : P.cellsOf f3.type = d.sz)
    (o0 : f0.offset = 0) (o1 : f1.offset = a.sz) (o2 : f2.offset = a.sz + b.sz) (o3 : f3.offset = a.sz + b.sz + c.sz) (ct : P.cellsOf t = a.sz + b.sz + c.sz + d.sz) :
    Opens P t (Kd.pair a (Kd.pair b (Kd.pair c d))) (fun x => Wa x.1 ∧ Wb x.2.1 ∧ Wc x.2.2.1 ∧ Wd x.2.2.2) := by
  intro H enc w fuel cs x hx
  obtain ⟨xs, n, _, _, hl, hlen, hf⟩ := DataW.trod_struct ht hx
  have g0 := hf 0 f0 rfl
  have g1 := hf 1 f1 rfl
  have g2 := hf 2 f2 rfl
  have g3 := hf 3 f3 rfl
  have hlen' : xs.length = 4 := hlen
  rw [List.getElem?_eq_getElem (by omega)] at g0 g1 g2 g3
  obtain ⟨y0, k0, w0⟩ := h0 g0
  obtain ⟨y1, k1, w1⟩ := h1 g1
  obtain ⟨y2, k2, w2⟩ := h2 g2
  obtain ⟨y3, k3, w3⟩ := h3 g3
  rw [o0, c0, List.drop_zero] at k0
  rw [o1, c1] at k1
  rw [o2, c2, ← List.drop_drop] at k2
  rw [o3, c3, ← List.drop_drop, ← List.drop_drop] at k3
  refine ⟨(y0, y1, y2, y3), ⟨_, _, ?_, k0, _, _, rfl, k1, _, _, rfl, k2, k3⟩, w0, w1, w2, w3⟩
  rw [List.take_of_length_le (l := ((cs.drop a.sz).drop b.sz).drop c.sz) (by rw [List.length_drop, List.length_drop, List.length_drop]; omega), List.take_append_drop, List.take_append_drop, List.take_append_drop]
end Go.Proofs.Ytelfpnpplknlpaa
/- Arguments that are strings, floats; bounds of numbers. -/
namespace Go.Proofs.Ytelfpnpplknlpaa
open Go.ChangeShapes Go.WideShapes Go.ChangeAt Go.RowKit
open Go.Proofs.YtelfpnpplknlpaaW.PrintWords

/-- An argument of one cell. -/
theorem open_arg_string {P : Program} {t : TypeId} (ht : P.underlying t = some .string)
    {H : Type} {enc : TypeId × Value → H} {w : World} {r : Reach} {b0 : Nat} {v : Value} {x : DataW H} {ps : List MemPlace}
    (hv : Value.okWide P w r b0 t v) (hx : DataW.Trod enc P w 0 (fun _ => true) true t v x ps) :
    ∃ s, v = .string s ∧ s.size ≤ maxLen := by
  obtain ⟨s, rfl⟩ := okWide_string ht hv
  obtain ⟨fuel, hf⟩ := hx
  obtain ⟨s', h, hW⟩ := opens_string ht hf
  have h' : [Value.string s] = [.string s'] := h
  injection h' with h1 _
  injection h1 with h2
  subst h2
  exact ⟨s, rfl, hW⟩
theorem okWide_float {P : Program} {w : World} {r : Reach} {base : Nat} {t : TypeId} {v : Value} (ht : P.underlying t = some (.float .f64)) (h : Value.okWide P w r base t v) : ∃ b, v = .float .f64 b := by
  cases v <;> simp_all [Value.okWide, Cell.okWide, Cell.ok]
  all_goals (try (rename_i k b; cases k <;> simp_all))
theorem open_arg_float {P : Program} {t : TypeId} (ht : P.underlying t = some (.float .f64))
    {H : Type} {enc : TypeId × Value → H} {w : World} {r : Reach} {b0 : Nat} {v : Value} {x : DataW H} {ps : List MemPlace}
    (hv : Value.okWide P w r b0 t v) (hx : DataW.Trod enc P w 0 (fun _ => true) true t v x ps) :
    ∃ b, v = .float .f64 b ∧ b < 2 ^ 64 := by
  obtain ⟨s, rfl⟩ := okWide_float ht hv
  obtain ⟨fuel, hf⟩ := hx
  obtain ⟨s', h, hW⟩ := opens_float ht hf
  have h' : [Value.float .f64 s] = [.float .f64 s'] := h
  injection h' with h1 _
  injection h1 with _ h2
  subst h2
  exact ⟨s, rfl, hW⟩
theorem bnd_u8 {n : Int} (h : (Lit.int .u8 n).wf = true) : 0 ≤ n ∧ n ≤ 255 := by
  simpa [Lit.wf, IntKind.min, IntKind.max, IntKind.signed, IntKind.bits] using h
theorem bnd_i64 {n : Int} (h : (Lit.int .i64 n).wf = true) : -9223372036854775808 ≤ n ∧ n ≤ 9223372036854775807 := by
  simpa [Lit.wf, IntKind.min, IntKind.max, IntKind.signed, IntKind.bits] using h
theorem bnd_u64 {n : Int} (h : (Lit.int .u64 n).wf = true) : ∃ m : Nat, n = m ∧ m < 18446744073709551616 := by
  have h1 : 0 ≤ n ∧ n ≤ 18446744073709551615 := by simpa [Lit.wf, IntKind.min, IntKind.max, IntKind.signed, IntKind.bits] using h
  exact ⟨n.toNat, by omega, by omega⟩
theorem maxLen_le {n : Nat} (h : n ≤ maxLen) : n ≤ 9223372036854775807 := by simp only [maxLen] at h; omega
end Go.Proofs.Ytelfpnpplknlpaa
/- Ids and commands as arguments. -/
namespace Go.Proofs.Ytelfpnpplknlpaa
open Go.ChangeShapes Go.WideShapes Go.ChangeAt Go.RowKit
open Go.Proofs.YtelfpnpplknlpaaW.PrintWords

theorem opens_id : Opens Try.prog 28 idK IdOk :=
  opens_struct2 Try.underlying28 (opens_int Try.underlying3) (opens_int Try.underlying3) (by kernel_rfl) (by kernel_rfl) rfl rfl (by kernel_rfl)
theorem Opens.imp {P : Program} {t : TypeId} {α : Type} {d : Kd α} {W W' : α → Prop} (h : Opens P t d W) (hw : ∀ x, W x → W' x) : Opens P t d W' := fun hx => by
  obtain ⟨y, hk, h1⟩ := h hx
  exact ⟨y, hk, hw y h1⟩
theorem opens_cmd : Opens Try.prog 58 cmdK (fun x => (Lit.int .i64 x.1).wf = true ∧ x.2.1.size ≤ maxLen ∧ x.2.2 < 2 ^ 64) :=
  opens_struct3 Try.underlying58 (opens_int Try.underlying3) (opens_string Try.underlying9) (opens_float Try.underlying56) (by kernel_rfl) (by kernel_rfl) (by kernel_rfl) rfl rfl rfl (by kernel_rfl)
end Go.Proofs.Ytelfpnpplknlpaa
/- Records as arguments. -/
namespace Go.Proofs.Ytelfpnpplknlpaa
open Go.ChangeShapes Go.WideShapes Go.ChangeAt Go.RowKit
open Go.Proofs.YtelfpnpplknlpaaW.PrintWords

theorem opens_rec : Opens Try.prog 32 recK (fun x => IdOk x.1 ∧ (Lit.int .i64 x.2.1).wf = true ∧ (∀ y ∈ x.2.2.1, IdOk y) ∧ ∀ y ∈ x.2.2.2, (Lit.int .i64 y.1).wf = true ∧ y.2.1.size ≤ maxLen ∧ y.2.2 < 2 ^ 64) :=
  opens_struct4 Try.underlying32 opens_id (opens_int Try.underlying3) (opens_slice Try.underlying29 opens_id (by kernel_rfl)) (opens_slice Try.underlying30 opens_cmd (by kernel_rfl)) (by kernel_rfl) (by kernel_rfl) (by kernel_rfl) (by kernel_rfl) rfl rfl rfl rfl (by kernel_rfl)
end Go.Proofs.Ytelfpnpplknlpaa
/- Arguments that are structs. -/
namespace Go.Proofs.Ytelfpnpplknlpaa
open Go.ChangeShapes Go.WideShapes Go.ChangeAt Go.RowKit
open Go.Proofs.YtelfpnpplknlpaaW.PrintWords

theorem open_arg_struct {P : Program} {t : TypeId} {fs : Array Field} {α : Type} {d : Kd α} {W : α → Prop} (ht : P.underlying t = some (.struct fs)) (h : Opens P t d W)
    {H : Type} {enc : TypeId × Value → H} {w : World} {r : Reach} {b0 : Nat} {v : Value} {x : DataW H} {ps : List MemPlace}
    (hv : Value.okWide P w r b0 t v) (hx : DataW.Trod enc P w 0 (fun _ => true) true t v x ps) :
    ∃ cs y, v = .agg cs ∧ d.K w y cs.toList ∧ W y := by
  obtain ⟨fuel, hf⟩ := hx
  obtain ⟨y, hk, hw⟩ := h hf
  have hag : ∃ cs, v = .agg cs := by
    simp only [Value.okWide, ht] at hv
    obtain ⟨cs, rfl, _⟩ := hv
    exact ⟨cs, rfl⟩
  obtain ⟨cs, rfl⟩ := hag
  exact ⟨cs, y, rfl, hk, hw⟩
set_option maxRecDepth 100000 in
theorem open_arg_rec {H : Type} {enc : TypeId × Value → H} {w : World} {r : Reach} {b0 : Nat} {v : Value} {x : DataW H} {ps : List MemPlace}
    (hv : Value.okWide Try.prog w r b0 32 v) (hx : DataW.Trod enc Try.prog w 0 (fun _ => true) true 32 v x ps) :
    ∃ (y : Rec) (Ad Ab : Option Addr) (cd cb : Nat), v = recV y Ad Ab cd cb ∧ RecAt w y Ad Ab cd cb ∧ (IdOk y.1 ∧ (Lit.int .i64 y.2.1).wf = true ∧ (∀ z ∈ y.2.2.1, IdOk z) ∧ ∀ z ∈ y.2.2.2, (Lit.int .i64 z.1).wf = true ∧ z.2.1.size ≤ maxLen ∧ z.2.2 < 2 ^ 64) := by
  obtain ⟨cs, y, rfl, hk, hw⟩ := open_arg_struct Try.underlying32 opens_rec hv hx
  obtain ⟨Ad, Ab, cd, cb, hc, hr⟩ := recK_K hk
  refine ⟨y, Ad, Ab, cd, cb, ?_, hr, hw⟩
  rw [show cs = (recCells y Ad Ab cd cb).toArray from by rw [← hc]]
end Go.Proofs.Ytelfpnpplknlpaa
/- What every law's row asks: a call that returns true and changes no block that was there meets the row. -/
namespace Go.Proofs.Ytelfpnpplknlpaa
open Go.ChangeShapes Go.WideShapes Go.ChangeAt Go.RowKit

theorem own : ownKnob Try.prog.godebug = none := by kernel_rfl
theorem laidOut : laidOutB Try.prog = true := by kernel_rfl

theorem trodAll_below {H : Type} {enc : TypeId × Value → H} {P : Program} (hl : laidOutB P = true) {W W' : World} (hb : Below W.heap.size W W') :
    ∀ (ts : List TypeId) (vs : List Value) (ds : List (DataW H)) (ps : List MemPlace), (ts.all fun t => P.readableRec t && decide (t < P.types.size)) = true →
      DataW.TrodAll enc P W 0 (fun _ => true) true ts vs ds ps → (∀ x ∈ ps, x.block < W.heap.size) → DataW.TrodAll enc P W' 0 (fun b => decide (b < W.heap.size)) true ts vs ds ps
  | [], [], [], ps, _, h, _ => h
  | t :: ts, v :: vs, d :: ds, ps, hr, h, hlt => by
    obtain ⟨p, q, h1, h2, rfl⟩ := h
    simp only [List.all_cons, Bool.and_eq_true, decide_eq_true_eq] at hr
    exact ⟨p, q, Below.trod hl hr.1.1 hr.1.2 h1 hb (fun x hx => hlt x (List.mem_append_left _ hx)),
      trodAll_below hl hb ts vs ds q (by simpa using hr.2) h2 (fun x hx => hlt x (List.mem_append_right _ hx)), rfl⟩

theorem law_post {H : Type} {enc : TypeId × Value → H} {P : Program} {f : Func} {s : ChangeSpec} {W W' : World} {args : Array Value} {ds gs : List (DataW H)} {before : List MemPlace} {T : TypeId}
    (hl : laidOutB P = true) (hr : (f.params.toList.all fun t => P.readableRec t && decide (t < P.types.size)) = true) (hres : f.resultTypes.toList = [T]) (hT : P.underlying T = some .bool)
    (hn : f.resultTypes.size = 1) (hvars : s.vars = []) (hfn : ∀ x : List (DataW H), x = ds → s.fn H (x ++ []) = { results := [.lit (.bool true)], args := ds })
    (hW : DataW.Whole enc P f.params.toList s.vars false W args.toList ds gs before) (hb : Below W.heap.size W W') :
    s.post enc P f false true false false W args (.bool true) W' := by
  have hW' := hW
  obtain ⟨p, q, hA, hV, rfl, hfz, hnd⟩ := hW
  have hlt := hW'.lt
  rw [hvars] at hV
  obtain ⟨rfl, rfl⟩ := trodVars_none hV
  have e : s.fn H (ds ++ []) = { results := [.lit (.bool true)], args := ds } := hfn ds rfl
  refine ⟨ds, [], p ++ [], [], p, [], hW', ?_, ?_, ?_, hb.frame _, fun h => by cases h⟩
  · rw [e, hres, hn]
    exact trodAll_mk1 (shut_bool hT true)
  · rw [e]
    exact trodAll_below hl hb _ _ _ _ hr hA (fun x hx => hlt x (List.mem_append_left _ hx))
  · rw [e, hvars]
    rfl
end Go.Proofs.Ytelfpnpplknlpaa
