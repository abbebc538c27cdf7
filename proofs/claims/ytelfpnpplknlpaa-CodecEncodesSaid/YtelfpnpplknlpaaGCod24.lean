/- Texts of Cod, merged (24 of 27): RRead. -/
import Derived.Test.YtelfpnpplknlpaaGCod21
import Derived.Test.YtelfpnpplknlpaaGCod23
set_option linter.unusedVariables false
set_option linter.unusedSimpArgs false
/- The reference reads a record. -/
namespace Go.Proofs.Ytelfpnpplknlpaa
open Go.RowKit
open Go.Proofs.YtelfpnpplknlpaaW.PrintWords

/-- What is left to be read, or the first error. -/
abbrev Left := Except Int (List Int)
def RSt (w : World) (gs : Nat) : Left → Prop
  | .ok xs => ∃ A c, RSrc w gs A xs c
  | .error e => RErr w gs e
def errOf : Left → Int
  | .ok _ => 0
  | .error e => e
def ofNum : Rd Nat → Nat × Left
  | .error e => (0, .error e)
  | .ok (n, ys) => (n, .ok ys)
def numS : Left → Nat × Left
  | .error e => (0, .error e)
  | .ok xs => ofNum (numR xs)
theorem RSt.fr {w w' : World} {gs : Nat} {m : Left} (h : RSt w gs m) (hF : Fr (fun k => gs < k) w w') : RSt w' gs m := by
  cases m with
  | ok xs => obtain ⟨A, c, h⟩ := h; exact ⟨A, c, h.fr hF⟩
  | error e => exact RErr.fr h hF
theorem RSt.cell1 {w : World} {gs : Nat} {m : Left} (h : RSt w gs m) : w.cell? ⟨gs, 1, none⟩ = some (.int .i64 (errOf m)) := by
  cases m with
  | ok xs => obtain ⟨A, c, h⟩ := h; exact h.cell1
  | error e => exact RErr.cell1 h
theorem RSt.err {w : World} {gs : Nat} {m : Left} (h : RSt w gs m) {e : Int} (he : m = .error e) : RErr w gs e ∧ e ≠ 0 := by
  subst he; exact ⟨h, h.1⟩
theorem rs_numS (gs : Nat) (m : Left) (w : World) (h : RSt w gs m) :
    Calls Try.prog 19 #[.pointer (some ⟨gs, 0, none⟩)] w fun r w' => r = .returned (.int .i64 ((numS m).1 : Int)) ∧ RSt w' gs (numS m).2 ∧ Fr (fun k => k = gs) w w' := by
  cases m with
  | error e =>
    refine (rs_num_err gs e w h).mono ?_
    rintro r w' ⟨rfl, rfl⟩
    exact ⟨rfl, h, Fr.refl _ _⟩
  | ok xs =>
    obtain ⟨A, c, h⟩ := h
    refine (rs_num gs A xs c w h).mono ?_
    rintro r w' ⟨hF, hm⟩
    show r = Ending.returned (.int .i64 ((ofNum (numR xs)).1 : Int)) ∧ RSt w' gs (ofNum (numR xs)).2 ∧ _
    cases hn : numR xs with
    | error e =>
      rw [hn] at hm
      exact ⟨hm.1, hm.2, hF⟩
    | ok p =>
      obtain ⟨n, ys⟩ := p
      rw [hn] at hm
      obtain ⟨v, rfl, rfl, A', c', hs⟩ := hm
      exact ⟨rfl, ⟨A', c', hs⟩, hF⟩
/-- The reading, as the reference goes: an error is kept. -/
def goS {β : Type} (m : Left) (f : List Int → Except Int β) : Except Int β := match m with
  | .error e => .error e
  | .ok ys => f ys
theorem goS_num {β : Type} (m : Left) (f : Nat → List Int → Except Int β) : goS m (fun xs => thenR (numR xs) f) = goS (numS m).2 (f (numS m).1) := by
  cases m with
  | error e => rfl
  | ok xs =>
    show thenR (numR xs) f = goS (ofNum (numR xs)).2 (f (ofNum (numR xs)).1)
    cases numR xs with
    | error e => rfl
    | ok p => rfl
/-- What the reference's reading ends in. -/
def RefEnd (w : World) (m : Except Int Rec) (r : Ending) (w' : World) : Prop := Fr (fun _ => False) w w' ∧ match m with
  | .error e => r = .returned (.tuple #[zeroV, .int .i64 e])
  | .ok R => ∃ R' Ad Ab cd cb, r = .returned (.tuple #[recV R' Ad Ab cd cb, .int .i64 0]) ∧ canonRec R' = R ∧ RecGood R' ∧ RecAt w' R' Ad Ab cd cb
theorem RefEnd.err {w w' : World} {m : Except Int Rec} {e : Int} {r : Ending} (hm : m = .error e) (hF : Fr (fun _ => False) w w') (hr : r = .returned (.tuple #[zeroV, .int .i64 e])) : RefEnd w m r w' := by subst hm; exact ⟨hF, hr⟩
theorem RefEnd.ok {w w' : World} {m : Except Int Rec} {R : Rec} {r : Ending} (hm : m = .ok R) (hF : Fr (fun _ => False) w w') (h : ∃ R' Ad Ab cd cb, r = .returned (.tuple #[recV R' Ad Ab cd cb, .int .i64 0]) ∧ canonRec R' = R ∧ RecGood R' ∧ RecAt w' R' Ad Ab cd cb) : RefEnd w m r w' := by subst hm; exact ⟨hF, h⟩
/-- Only what a value is as a key matters. -/
def TwinC (x : Cmd) : Prop := hasV x.1.toNat = false → x.2.2 = 0
theorem cmdOk_twin {x : Cmd} (h : TwinC x) : cmdOk x ↔ cmdOk (canonCmd x) := by
  have hz : x.1 = 1 ∨ x.1 = 3 → x.2.2 = 0 := fun hk => h (by rcases hk with hk | hk <;> (rw [hk]; decide))
  exact ⟨fun h1 => cmdOk_canon h1, fun h1 => ⟨h1.1, h1.2.1, hz⟩⟩
theorem errBat_twin {L : List Cmd} (h : ∀ x ∈ L, TwinC x) : errBat L = errBat (L.map canonCmd) := by
  have hb : batOk L ↔ batOk (L.map canonCmd) := by
    unfold batOk
    rw [List.length_map]
    constructor
    · intro h1 i hi
      rw [cmx_eq (by rw [List.length_map]; exact hi), List.getElem_map]
      have := h1 i hi
      rw [cmx_eq hi] at this
      exact (cmdOk_twin (h _ (List.getElem_mem hi))).1 this
    · intro h1 i hi
      have := h1 i hi
      rw [cmx_eq (by rw [List.length_map]; exact hi), List.getElem_map] at this
      rw [cmx_eq hi]
      exact (cmdOk_twin (h _ (List.getElem_mem hi))).2 this
  unfold errBat
  rw [List.length_map]
  have hc : cdec (batOk L) = cdec (batOk (L.map canonCmd)) := by
    by_cases h1 : batOk L
    · rw [cdec_true h1, cdec_true (hb.1 h1)]
    · rw [cdec_false h1, cdec_false fun h2 => h1 (hb.2 h2)]
  rw [hc]
theorem errRec_twin {r : Rec} (h : ∀ x ∈ r.2.2.2, TwinC x) : errRec r = errRec (canonRec r) := by
  have := errBat_twin h
  unfold errRec canonRec
  rw [this]
theorem openR_ref (xs : List Int) (n : Nat) (hx : Byt xs) (hn : xs.length = n + 8) : openR xs = if xs.drop n = be8 (dOf (xs.take n)) then (xs.take n, 0) else ([], 21) := by
  have hd : (xs.drop n).length = 8 := by rw [List.length_drop]; omega
  have hs := sum_iff (d := dOf (xs.take n)) hd (fun x h => hx x (List.mem_of_mem_drop h)) (dOf_lt _)
  unfold openR
  rw [if_neg (by omega), show xs.length - 8 = n from by omega]
  by_cases h : xs.drop n = be8 (dOf (xs.take n))
  · rw [if_pos h, if_pos (hs.2 h)]
  · rw [if_neg h, if_neg fun h' => h (hs.1 h')]
theorem numS_zero {m : Left} {e : Int} (h : (numS m).2 = .error e) : (numS m).1 = 0 := by
  cases m with
  | error e' => rfl
  | ok xs =>
    replace h : (ofNum (numR xs)).2 = .error e := h
    show (ofNum (numR xs)).1 = 0
    cases hn : numR xs with
    | error e' => rfl
    | ok p => rw [hn] at h; cases h
theorem idS {ys : List Int} {m1 m2 : Left} {a b : Nat} (h1 : a = (numS (.ok ys)).1 ∧ m1 = (numS (.ok ys)).2) (h2 : b = (numS m1).1 ∧ m2 = (numS m1).2) : idR ys = goS m2 (fun zs => .ok (((a : Int), (b : Int)), zs)) := by
  have e1 := goS_num (.ok ys) (fun a ys => thenR (numR ys) fun b zs => (.ok (((a : Int), (b : Int)), zs) : Except Int ((Int × Int) × List Int)))
  have e2 := goS_num m1 (fun b zs => (.ok (((a : Int), (b : Int)), zs) : Except Int ((Int × Int) × List Int)))
  rw [← h1.1, ← h1.2] at e1
  rw [← h2.1, ← h2.2] at e2
  exact e1.trans e2
/-- The state behind a command. -/
theorem CEnd.st {w w' : World} {gs : Nat} {zs : List Int} {r : Ending} (h : CEnd w gs (cmdR zs) r w') : Fr (fun k => k = gs) w w' ∧ ∃ (x : Cmd) (m : Left), r = .returned (cmdV x) ∧ x.2.2 < 18446744073709551616 ∧ RSt w' gs m ∧ (∀ us, m = .ok us → cmdR zs = .ok (canonCmd x, us) ∧ TwinC x) ∧ (∀ e, m = .error e → cmdR zs = .error e) := by
  obtain ⟨hF, x, hr, hx, hm⟩ := h
  refine ⟨hF, x, ?_⟩
  cases hn : cmdR zs with
  | error e =>
    rw [hn] at hm
    exact ⟨.error e, hr, hx, hm, fun us h => (by cases h), fun e' h => by injection h with h; rw [h]⟩
  | ok p =>
    obtain ⟨c, ys⟩ := p
    rw [hn] at hm
    obtain ⟨h1, h2, hs⟩ := hm
    exact ⟨.ok ys, hr, hx, hs, fun us h => (by injection h with h; rw [h, h1]; exact ⟨rfl, h2⟩), fun e' h => by cases h⟩
set_option maxRecDepth 100000 in
set_option maxHeartbeats 8000000 in
theorem ref_read11 (A : Option Addr) (xs : List Int) (c : Nat) (w : World) (hc : xs.length ≤ c) (hr : RdB w A xs) (hx : Byt xs) (hl : xs.length ≤ 140737488355328) :
    Calls Try.prog 10 #[.slice A xs.length c] w (RefEnd w (decR xs)) := by
  have hB0 := Blk.new w 32 #[.int .i64 0, .int .i64 0, .int .i64 0, .slice none 0 0, .slice none 0 0]
  have hF0 := (Fr.refl (fun _ => False) w).alloc (.cells #[.int .i64 0, .int .i64 0, .int .i64 0, .slice none 0 0, .slice none 0 0] 32)
  have HX := Lib.hid hx
  have HB0 := Lib.hid hB0
  have HF0 := Lib.hid hF0
  rcases Nat.lt_or_ge xs.length 8 with h8 | h8
  · have HE := Lib.hid (show decR xs = .error 4 from by unfold decR openR; rw [if_pos h8]; rfl)
    have tb : decide ((xs.length : Int) - 8 < 0) = true := decide_eq_true (by omega)
    have z0 := HB0.out.cell 0
    have z1 := HB0.out.cell 1
    have z2 := HB0.out.cell 2
    have z3 := HB0.out.cell 3
    have z4 := HB0.out.cell 4
    have zf := HB0.out.frozen
    simp only [List.getElem?_toArray, List.getElem?_cons_zero, List.getElem?_cons_succ] at z0 z1 z2 z3 z4
    clear hB0 hF0 h8
    go_enter Try.func10, Try.ntmps10
    go_wp2_with fail
    refine bodyPost_ret (v := .tuple #[zeroV, .int .i64 4]) (by simp [results, Try.results10, go_sem, z0, z1, z2, z3, z4]) rfl ?_
    exact RefEnd.err HE.out HF0.out rfl
  · obtain ⟨n, hn⟩ : ∃ n, xs.length = n + 8 := ⟨xs.length - 8, by omega⟩
    have hopen := openR_ref xs n hx hn
    obtain ⟨A2, ys2, hcut2, hy2⟩ := cut_from8 A c xs n (by omega) hc
    obtain ⟨ys1, hcut1, hy1⟩ := cut_to8 A c xs n (by omega) hc
    rw [← hy1.out.1, ← hy2.out.1] at hopen
    have tb : decide ((xs.length : Int) - 8 < 0) = false := decide_eq_false (by omega)
    have hsub : (xs.length : Int) - 8 = (n : Int) := by omega
    have HOP := Lib.hid hopen
    have HRX := Lib.hid hr
    have HSZ := Lib.hid (show ys1.length ≤ 140737488355328 from by rw [hy1.out.2.1]; omega)
    have HCC := Lib.hid (show ys1.length ≤ c from by rw [hy1.out.2.1]; omega)
    have HLX := Lib.hid hn
    have HY1 := Lib.hid (show Byt ys1 from by rw [hy1.out.1]; exact fun x h => hx x (List.mem_of_mem_take h))
    have HY2 := Lib.hid (show Byt ys2 from by rw [hy2.out.1]; exact fun x h => hx x (List.mem_of_mem_drop h))
    obtain ⟨wA, hwA⟩ : ∃ wA, wA = w.alloc (.cells #[.int .i64 0, .int .i64 0, .int .i64 0, .slice none 0 0, .slice none 0 0] 32) := ⟨_, rfl⟩
    rw [← hwA] at HB0 HF0
    obtain ⟨St, hSt⟩ : ∃ St : World → Prop, St = Fr (fun _ => False) wA := ⟨_, rfl⟩
    have HT := Lib.hid (show ∀ x, Fr (fun _ => False) wA x → At St x from fun x hx => by unfold At; rw [hSt]; exact hx)
    have HTI := Lib.hid (show ∀ x, At St x → Fr (fun _ => False) wA x from fun x hx => by have h1 := hx.out; rw [hSt] at h1; exact h1)
    have hcv2 : ∀ x, At St x → (convert 22 9 (.slice A2 ys2.length (c - n))).run Try.prog x = .ok (.string (strOfNums ys2)) x := fun x h => conv_str8 (hy2.out.2.2 x (HRX.out.fr (HF0.out.trans (HTI.out x h)) (fun _ _ h => h)))
    have hT0 : At St wA.drew := HT.out _ (Fr.refl _ _).drew
    clear hB0 hF0 h8 hr hx hopen hSt hn
    go_enter Try.func10, Try.ntmps10
    go_wp2_with fail
    rw [← hwA]
    clear hwA
    refine rt_start [] (At St) 11 (by kernel_rfl) rfl ?_
    refine rt_free 0 (v := ?_) rfl (by kernel_rfl) (by kernel_rfl) (by kernel_rfl) (by kernel_rfl) (fun _ _ _ h => h) (by rfl) (fun _ => by first | assumption | exact HS0 _ rfl | exact HT.out _ (by repeat (first | exact Fr.refl _ _ | apply Fr.drew | refine Fr.alloc ?_ _))) ?_ ?_
    rotate_left 1
    · intro w; go_simp <;> with_reducible rfl
    try simp only [Act.put, List.setIfInBounds_toArray, List.set_cons_zero, List.set_cons_succ]
    refine rt_free 1 (v := ?_) rfl (by kernel_rfl) (by kernel_rfl) (by kernel_rfl) (by kernel_rfl) (fun _ _ _ h => h) (by rfl) (fun _ => by first | assumption | exact HS0 _ rfl | exact HT.out _ (by repeat (first | exact Fr.refl _ _ | apply Fr.drew | refine Fr.alloc ?_ _))) ?_ ?_
    rotate_left 1
    · intro w; go_simp <;> with_reducible rfl
    try simp only [Act.put, List.setIfInBounds_toArray, List.set_cons_zero, List.set_cons_succ]
    refine rt_free 2 (v := ?_) rfl (by kernel_rfl) (by kernel_rfl) (by kernel_rfl) (by kernel_rfl) (fun _ _ _ h => h) (by rfl) (fun _ => by first | assumption | exact HS0 _ rfl | exact HT.out _ (by repeat (first | exact Fr.refl _ _ | apply Fr.drew | refine Fr.alloc ?_ _))) ?_ ?_
    rotate_left 1
    · intro w; go_simp <;> with_reducible rfl
    try simp only [Act.put, List.setIfInBounds_toArray, List.set_cons_zero, List.set_cons_succ]
    refine rt_free 6 (v := ?_) rfl (by kernel_rfl) (by kernel_rfl) (by kernel_rfl) (by kernel_rfl) (fun _ _ _ h => h) (by rfl) (fun _ => by first | assumption | exact HS0 _ rfl | exact HT.out _ (by repeat (first | exact Fr.refl _ _ | apply Fr.drew | refine Fr.alloc ?_ _))) ?_ ?_
    rotate_left 1
    · intro w; go_simp <;> with_reducible rfl
    try simp only [Act.put, List.setIfInBounds_toArray, List.set_cons_zero, List.set_cons_succ]
    refine rt_free 7 (v := ?_) rfl (by kernel_rfl) (by kernel_rfl) (by kernel_rfl) (by kernel_rfl) (fun _ _ _ h => h) (by rfl) (fun _ => by first | assumption | exact HS0 _ rfl | exact HT.out _ (by repeat (first | exact Fr.refl _ _ | apply Fr.drew | refine Fr.alloc ?_ _))) ?_ ?_
    rotate_left 1
    · intro w; go_simp <;> with_reducible rfl
    try simp only [Act.put, List.setIfInBounds_toArray, List.set_cons_zero, List.set_cons_succ]
    refine rt_free 8 (v := ?_) rfl (by kernel_rfl) (by kernel_rfl) (by kernel_rfl) (by kernel_rfl) (fun _ _ _ h => h) (by rfl) (fun _ => by first | assumption | exact HS0 _ rfl | exact HT.out _ (by repeat (first | exact Fr.refl _ _ | apply Fr.drew | refine Fr.alloc ?_ _))) ?_ ?_
    rotate_left 1
    · intro w; go_simp <;> with_reducible rfl
    try simp only [Act.put, List.setIfInBounds_toArray, List.set_cons_zero, List.set_cons_succ]
    refine rt_take 9 (v := ?_) rfl (by kernel_rfl) (by kernel_rfl) (by kernel_rfl) (by kernel_rfl) (fun _ _ _ h => h) (by rfl) (by first | assumption | exact HS0 _ rfl | exact HT.out _ (by repeat (first | exact Fr.refl _ _ | apply Fr.drew | refine Fr.alloc ?_ _))) ?_ ?_
    rotate_left 1
    · intro w hSw; go_simp <;> with_reducible rfl
    try simp only [Act.put, List.setIfInBounds_toArray, List.set_cons_zero, List.set_cons_succ]
    refine rt_one 3 rfl (by kernel_rfl) (fun K hK => ?_)
    go_simp
    refine (ref_of A ys1 c _ (hy1.out.2.2 _ (HRX.out.fr (HF0.out.trans (Fr.refl (fun _ => False) wA).drew) (fun _ _ h => h))) HY1.out HSZ.out).mono ?_
    rintro r w1 ⟨rfl, rfl⟩
    refine hK.out (At St) _ _ (fun _ h => h) (fun _ => by (assumption)) ?_
    clear hK K
    try simp only [Act.put, List.setIfInBounds_toArray, List.set_cons_zero, List.set_cons_succ]
    refine rt_one 4 rfl (by kernel_rfl) (fun K hK => ?_)
    go_simp
    refine (ref_big (dOf ys1) _ (dOf_lt _)).mono ?_
    rintro r w1 ⟨v1, rfl, ho1, hF1⟩
    obtain ⟨A3, c3, rfl, _⟩ := ho1.reads
    have hG1 := (Fr.refl (fun _ => False) wA).drew.trans hF1
    have hT1 := HT.out _ hG1
    have hcv1 := conv_str8 (c := c3) ho1.rdb
    have HG1 := Lib.hid hG1
    clear hT0 ho1 hF1 hG1
    refine hK.out (At St) _ _ (fun _ h => h) (fun _ => by (assumption)) ?_
    clear hK K
    try simp only [Act.put, List.setIfInBounds_toArray, List.set_cons_zero, List.set_cons_succ]
    refine rt_one 5 rfl (by kernel_rfl) (fun K hK => ?_)
    go_simp
    refine hK.out (At St) _ _ (fun _ h => h) (fun _ => by (assumption)) ?_
    clear hK K
    try simp only [Act.put, List.setIfInBounds_toArray, List.set_cons_zero, List.set_cons_succ]
    refine rt_free 10 (v := ?_) rfl (by kernel_rfl) (by kernel_rfl) (by kernel_rfl) (by kernel_rfl) (fun _ _ _ h => h) (by rfl) (fun _ => by first | assumption | exact HS0 _ rfl | exact HT.out _ (by repeat (first | exact Fr.refl _ _ | apply Fr.drew | refine Fr.alloc ?_ _))) ?_ ?_
    rotate_left 1
    · intro w; go_simp <;> with_reducible rfl
    try simp only [Act.put, List.setIfInBounds_toArray, List.set_cons_zero, List.set_cons_succ]
    refine rt_done (by kernel_rfl) ?_
    have HBz := Lib.hid (HB0.out.fr HG1.out (fun h => h))
    have HFz := Lib.hid (HF0.out.trans HG1.out)
    clear hcv1 hcv2 hT1 HG1 HB0 HF0 hcut2
    by_cases he : ys2 = be8 (dOf ys1)

    · have HD0 := Lib.hid (show decR xs = goS (.ok ys1) (fun ys => thenR (numR ys) fun i1 a => thenR (numR a) fun i2 b => thenR (numR b) fun q c => thenR (numR c) fun nd d => if 16 < nd then .error 10 else
        thenR (manyR idR nd d) fun D e => thenR (numR e) fun nb f => if 8 < nb then .error 5 else thenR (manyR cmdR nb f) fun B g => endR (((i1 : Int), (i2 : Int)), (q : Int), D, B) g) from by unfold decR; rw [HOP.out, if_pos he]; rfl)
      have t4 : ((strOfNums (be8 (dOf ys1))).toList == (strOfNums ys2).toList) = true := by rw [he]; exact beq_self_eq_true _
      rw [t4]
      simp only [Bool.not_true]
      have hb1 := (Blk.new w1 54 #[.slice A ys1.length c, .int .i64 0]).alloc (.cells #[.int .i64 0, .int .i64 0, .int .i64 0, .slice none 0 0, .slice none 0 0] 32)
      have hb2 := Blk.new (w1.alloc (.cells #[.slice A ys1.length c, .int .i64 0] 54)) 32 #[.int .i64 0, .int .i64 0, .int .i64 0, .slice none 0 0, .slice none 0 0]
      rw [World.size_alloc] at hb2
      have hf2 := ((Fr.refl (fun _ => False) w1).alloc (.cells #[.slice A ys1.length c, .int .i64 0] 54)).alloc (.cells #[.int .i64 0, .int .i64 0, .int .i64 0, .slice none 0 0, .slice none 0 0] 32)
      have HZZ := Lib.hid (show w.heap.size < w1.heap.size ∧ w1.heap.size + 1 < ((w1.alloc (.cells #[.slice A ys1.length c, .int .i64 0] 54)).alloc (.cells #[.int .i64 0, .int .i64 0, .int .i64 0, .slice none 0 0, .slice none 0 0] 32)).heap.size from ⟨HBz.out.lt, by simp⟩)
      have HST := Lib.hid (show RSt ((w1.alloc (.cells #[.slice A ys1.length c, .int .i64 0] 54)).alloc (.cells #[.int .i64 0, .int .i64 0, .int .i64 0, .slice none 0 0, .slice none 0 0] 32)) w1.heap.size (.ok ys1) from ⟨A, c, hb1, HCC.out, fun w' hF => hy1.out.2.2 w' (HRX.out.fr ((HFz.out.trans hf2).trans' hF (fun i hi h => by have h1 : w1.heap.size ≤ i := h; have := HZZ.out; omega)) (fun _ _ h => h)), HY1.out, HSZ.out⟩)
      have HR2 := Lib.hid hb2
      replace HBz := Lib.hid (HBz.out.fr hf2 (fun h => h))
      replace HFz := Lib.hid (HFz.out.trans hf2)
      clear hb1 hb2 hf2 he HRX HY1 HY2 HSZ HCC HOP HX HLX hy1 hy2
      go_wp2_with fail
      clear t4 tb
      generalize (World.alloc (World.alloc _ _) _) = w2 at HST HR2 HBz HFz HZZ ⊢
      obtain ⟨gs, hgs⟩ : ∃ gs, gs = w1.heap.size := ⟨_, rfl⟩
      rw [← hgs] at HST HR2 HZZ ⊢
      clear hgs
      refine (rs_numS gs (.ok ys1) w2 HST.out).mono ?_
      rintro r w3 ⟨rfl, hS, hF⟩
      obtain ⟨n3, hn⟩ : ∃ n, n = (numS (.ok ys1)).1 := ⟨_, rfl⟩
      obtain ⟨m3, hm⟩ : ∃ m, m = (numS (.ok ys1)).2 := ⟨_, rfl⟩
      have hd := HD0.out
      rw [goS_num, ← hn, ← hm] at hd
      rw [← hm] at hS
      rw [← hn]
      have HD3 := Lib.hid hd
      have HNZ3 := Lib.hid (show ∀ e, m3 = .error e → n3 = 0 from fun e h => by rw [hn]; exact numS_zero (by rw [← hm]; exact h))
      replace HR2 := Lib.hid (HR2.out.fr hF (fun e => by omega))
      replace HBz := Lib.hid (HBz.out.fr hF (fun e => by have := HZZ.out; omega))
      replace HFz := Lib.hid (HFz.out.trans' hF (fun i hi h => by have := HZZ.out; omega))
      replace HST := Lib.hid hS
      clear hn hm hd hS hF HD0

      have k0 := HR2.out.cell 0
      have kf := HR2.out.frozen
      simp only [List.getElem?_toArray, List.getElem?_cons_zero, List.getElem?_cons_succ] at k0
      go_wp2_with fail
      clear k0 kf
      replace HST := Lib.hid (HST.out.fr ((Fr.refl (fun k => gs < k) w3).setCell (p := ⟨gs + 1, 0, none⟩) (.inl (Nat.lt_succ_self _)) (.int .i64 (n3 : Int))))
      have hR := HR2.out.set_ 0 (.int .i64 (n3 : Int))
      replace HR2 := Lib.hid (show Blk (w3.setCell ⟨gs + 1, 0, none⟩ (.int .i64 (n3 : Int))) (gs + 1) 32 #[.int .i64 (n3 : Int), .int .i64 0, .int .i64 0, .slice none 0 0, .slice none 0 0] from hR)
      replace HBz := Lib.hid (HBz.out.far (p := ⟨gs + 1, 0, none⟩) (by have := HZZ.out; show w.heap.size ≠ gs + 1; omega) (.int .i64 (n3 : Int)))
      replace HFz := Lib.hid (HFz.out.setCell (p := ⟨gs + 1, 0, none⟩) (.inr (by have := HZZ.out; show w.heap.size ≤ gs + 1; omega)) (.int .i64 (n3 : Int)))
      clear hR
      generalize w3.setCell ⟨gs + 1, 0, none⟩ (.int .i64 (n3 : Int)) = v3 at HST HR2 HBz HFz ⊢

      refine (rs_numS gs m3 v3 HST.out).mono ?_
      rintro r w4 ⟨rfl, hS, hF⟩
      obtain ⟨n4, hn⟩ : ∃ n, n = (numS m3).1 := ⟨_, rfl⟩
      obtain ⟨m4, hm⟩ : ∃ m, m = (numS m3).2 := ⟨_, rfl⟩
      have hd := HD3.out
      rw [goS_num, ← hn, ← hm] at hd
      rw [← hm] at hS
      rw [← hn]
      have HD4 := Lib.hid hd
      have HNZ4 := Lib.hid (show ∀ e, m4 = .error e → n4 = 0 from fun e h => by rw [hn]; exact numS_zero (by rw [← hm]; exact h))
      replace HR2 := Lib.hid (HR2.out.fr hF (fun e => by omega))
      replace HBz := Lib.hid (HBz.out.fr hF (fun e => by have := HZZ.out; omega))
      replace HFz := Lib.hid (HFz.out.trans' hF (fun i hi h => by have := HZZ.out; omega))
      replace HST := Lib.hid hS
      clear hn hm hd hS hF HD3

      have k0 := HR2.out.cell 1
      have kf := HR2.out.frozen
      simp only [List.getElem?_toArray, List.getElem?_cons_zero, List.getElem?_cons_succ] at k0
      go_wp2_with fail
      clear k0 kf
      replace HST := Lib.hid (HST.out.fr ((Fr.refl (fun k => gs < k) w4).setCell (p := ⟨gs + 1, 1, none⟩) (.inl (Nat.lt_succ_self _)) (.int .i64 (n4 : Int))))
      have hR := HR2.out.set_ 1 (.int .i64 (n4 : Int))
      replace HR2 := Lib.hid (show Blk (w4.setCell ⟨gs + 1, 1, none⟩ (.int .i64 (n4 : Int))) (gs + 1) 32 #[.int .i64 (n3 : Int), .int .i64 (n4 : Int), .int .i64 0, .slice none 0 0, .slice none 0 0] from hR)
      replace HBz := Lib.hid (HBz.out.far (p := ⟨gs + 1, 1, none⟩) (by have := HZZ.out; show w.heap.size ≠ gs + 1; omega) (.int .i64 (n4 : Int)))
      replace HFz := Lib.hid (HFz.out.setCell (p := ⟨gs + 1, 1, none⟩) (.inr (by have := HZZ.out; show w.heap.size ≤ gs + 1; omega)) (.int .i64 (n4 : Int)))
      clear hR
      generalize w4.setCell ⟨gs + 1, 1, none⟩ (.int .i64 (n4 : Int)) = v4 at HST HR2 HBz HFz ⊢

      refine (rs_numS gs m4 v4 HST.out).mono ?_
      rintro r w5 ⟨rfl, hS, hF⟩
      obtain ⟨n5, hn⟩ : ∃ n, n = (numS m4).1 := ⟨_, rfl⟩
      obtain ⟨m5, hm⟩ : ∃ m, m = (numS m4).2 := ⟨_, rfl⟩
      have hd := HD4.out
      rw [goS_num, ← hn, ← hm] at hd
      rw [← hm] at hS
      rw [← hn]
      have HD5 := Lib.hid hd
      have HNZ5 := Lib.hid (show ∀ e, m5 = .error e → n5 = 0 from fun e h => by rw [hn]; exact numS_zero (by rw [← hm]; exact h))
      replace HR2 := Lib.hid (HR2.out.fr hF (fun e => by omega))
      replace HBz := Lib.hid (HBz.out.fr hF (fun e => by have := HZZ.out; omega))
      replace HFz := Lib.hid (HFz.out.trans' hF (fun i hi h => by have := HZZ.out; omega))
      replace HST := Lib.hid hS
      clear hn hm hd hS hF HD4

      have k0 := HR2.out.cell 2
      have kf := HR2.out.frozen
      simp only [List.getElem?_toArray, List.getElem?_cons_zero, List.getElem?_cons_succ] at k0
      go_wp2_with fail
      clear k0 kf
      replace HST := Lib.hid (HST.out.fr ((Fr.refl (fun k => gs < k) w5).setCell (p := ⟨gs + 1, 2, none⟩) (.inl (Nat.lt_succ_self _)) (.int .i64 (n5 : Int))))
      have hR := HR2.out.set_ 2 (.int .i64 (n5 : Int))
      replace HR2 := Lib.hid (show Blk (w5.setCell ⟨gs + 1, 2, none⟩ (.int .i64 (n5 : Int))) (gs + 1) 32 #[.int .i64 (n3 : Int), .int .i64 (n4 : Int), .int .i64 (n5 : Int), .slice none 0 0, .slice none 0 0] from hR)
      replace HBz := Lib.hid (HBz.out.far (p := ⟨gs + 1, 2, none⟩) (by have := HZZ.out; show w.heap.size ≠ gs + 1; omega) (.int .i64 (n5 : Int)))
      replace HFz := Lib.hid (HFz.out.setCell (p := ⟨gs + 1, 2, none⟩) (.inr (by have := HZZ.out; show w.heap.size ≤ gs + 1; omega)) (.int .i64 (n5 : Int)))
      clear hR
      generalize w5.setCell ⟨gs + 1, 2, none⟩ (.int .i64 (n5 : Int)) = v5 at HST HR2 HBz HFz ⊢

      refine (rs_numS gs m5 v5 HST.out).mono ?_
      rintro r w6 ⟨rfl, hS, hF⟩
      obtain ⟨n6, hn⟩ : ∃ n, n = (numS m5).1 := ⟨_, rfl⟩
      obtain ⟨m6, hm⟩ : ∃ m, m = (numS m5).2 := ⟨_, rfl⟩
      have hd := HD5.out
      rw [goS_num, ← hn, ← hm] at hd
      rw [← hm] at hS
      rw [← hn]
      have HD6 := Lib.hid hd
      have HNZ6 := Lib.hid (show ∀ e, m6 = .error e → n6 = 0 from fun e h => by rw [hn]; exact numS_zero (by rw [← hm]; exact h))
      replace HR2 := Lib.hid (HR2.out.fr hF (fun e => by omega))
      replace HBz := Lib.hid (HBz.out.fr hF (fun e => by have := HZZ.out; omega))
      replace HFz := Lib.hid (HFz.out.trans' hF (fun i hi h => by have := HZZ.out; omega))
      replace HST := Lib.hid hS
      clear hn hm hd hS hF HD5

      have s1 := HST.out.cell1
      cases m6 with
      | error e =>
        have HE := Lib.hid (show decR xs = .error e from HD6.out)
        obtain rfl := HNZ6.out e rfl
        have te : (e == 0) = false := by simpa using (HST.out.err rfl).2
        have te2 : (errOf (.error e) == 0) = false := te
        replace s1 : w6.cell? ⟨gs, 1, none⟩ = some (.int .i64 e) := s1
        replace HST := Lib.hid (show RErr w6 gs e from HST.out)
        clear HD6 HNZ3 HNZ4 HNZ5 HNZ6 HR2 te2
        go_wp2_with fail
        clear s1 te
        go_loopw [8] (fun i wt => i = .int .i64 0 ∧ RErr wt gs e ∧ Blk wt w.heap.size 32 #[.int .i64 0, .int .i64 0, .int .i64 0, .slice none 0 0, .slice none 0 0] ∧ Fr (fun _ => False) w wt) (fun _ _ => 0)
        case atStart => exact ⟨rfl, HST.out, HBz.out, HFz.out⟩
        case round =>
          obtain ⟨wu, rfl⟩ : ∃ x, x = wr := ⟨_, rfl⟩
          obtain ⟨rfl, hst, hbz, hfz⟩ := hrel
          have s1 := hst.cell1
          have te : (e == 0) = false := by simpa using hst.1
          clear HST HBz HFz
          have HST := Lib.hid hst
          have HBz := Lib.hid hbz
          have HFz := Lib.hid hfz
          clear hst hbz hfz
          go_wp2_with fail
          clear s1 te

          refine (rs_num_err gs e _ HST.out).mono ?_
          rintro r wn ⟨rfl, rfl⟩
          have s1 := HST.out.cell1
          have te : (e == 0) = false := by have := HST.out.1; simpa using this
          go_wp2_with fail
          clear s1 te

          go_loopw [10] (fun i wt => i = .int .i64 0 ∧ RErr wt gs e ∧ Blk wt w.heap.size 32 #[.int .i64 0, .int .i64 0, .int .i64 0, .slice none 0 0, .slice none 0 0] ∧ Fr (fun _ => False) w wt) (fun _ _ => 0)
          case atStart => exact ⟨rfl, HST.out, HBz.out, HFz.out⟩
          case round =>
            obtain ⟨wt, rfl⟩ : ∃ x, x = wr := ⟨_, rfl⟩
            obtain ⟨rfl, hst, hbz, hfz⟩ := hrel
            have s1 := hst.cell1
            have te : (e == 0) = false := by simpa using hst.1
            clear HST HBz HFz
            have HST := Lib.hid hst
            have HBz := Lib.hid hbz
            have HFz := Lib.hid hfz
            clear hst hbz hfz
            go_wp2_with fail
            clear s1 te

            have s1 := HST.out.cell1
            have te : (e == 0) = false := by have := HST.out.1; simpa using this
            have te' : (e != 0) = true := by have := HST.out.1; simpa using this
            go_wp2_with fail
            clear s1
            obtain ⟨St, hSt⟩ : ∃ St : World → Prop, St = fun x => x.cell? ⟨gs, 1, none⟩ = some (.int .i64 e) := ⟨_, rfl⟩
            have l1 : ∀ x, At St x → x.cell? ⟨gs, 1, none⟩ = some (.int .i64 e) := fun x h => by have h1 := h.out; rw [hSt] at h1; exact h1
            have hT0 : At St (wt).drew := by unfold At; rw [hSt]; exact HST.out.cell1
            have HTM := Lib.hid (show ∀ x x', At St x → Fr (fun k => k = w.heap.size) x x' → At St x' from fun x x' h hF => by have h1 := h.out; rw [hSt] at h1; unfold At; rw [hSt]; exact hF.cell h1 (fun h2 => by have h3 : gs = w.heap.size := h2; have := HZZ.out; omega))
            clear hSt
            refine Code.wp_mono Calm.out ?_
            refine rt_start [] (At St) 7 (by kernel_rfl) rfl ?_
            have HBd := Lib.hid HBz.out.drew
            have HFd := Lib.hid HFz.out.drew
            clear HBz HFz HST
            generalize (World.drew _) = Wd at HBd HFd hT0 ⊢
            refine rt_free 0 (v := ?_) rfl (by kernel_rfl) (by kernel_rfl) (by kernel_rfl) (by kernel_rfl) (fun _ _ _ h => h) (by rfl) (fun _ => by first | assumption | exact HS0 _ rfl | exact HT.out _ (by repeat (first | exact Fr.refl _ _ | apply Fr.drew | refine Fr.alloc ?_ _))) ?_ ?_
            rotate_left 1
            · intro w; go_simp <;> with_reducible rfl
            try simp only [Act.put, List.setIfInBounds_toArray, List.set_cons_zero, List.set_cons_succ]
            refine rt_free 1 (v := ?_) rfl (by kernel_rfl) (by kernel_rfl) (by kernel_rfl) (by kernel_rfl) (fun _ _ _ h => h) (by rfl) (fun _ => by first | assumption | exact HS0 _ rfl | exact HT.out _ (by repeat (first | exact Fr.refl _ _ | apply Fr.drew | refine Fr.alloc ?_ _))) ?_ ?_
            rotate_left 1
            · intro w; go_simp <;> with_reducible rfl
            try simp only [Act.put, List.setIfInBounds_toArray, List.set_cons_zero, List.set_cons_succ]
            refine rt_free 2 (v := ?_) rfl (by kernel_rfl) (by kernel_rfl) (by kernel_rfl) (by kernel_rfl) (fun _ _ _ h => h) (by rfl) (fun _ => by first | assumption | exact HS0 _ rfl | exact HT.out _ (by repeat (first | exact Fr.refl _ _ | apply Fr.drew | refine Fr.alloc ?_ _))) ?_ ?_
            rotate_left 1
            · intro w; go_simp <;> with_reducible rfl
            try simp only [Act.put, List.setIfInBounds_toArray, List.set_cons_zero, List.set_cons_succ]
            refine rt_free 3 (v := ?_) rfl (by kernel_rfl) (by kernel_rfl) (by kernel_rfl) (by kernel_rfl) (fun _ _ _ h => h) (by rfl) (fun _ => by first | assumption | exact HS0 _ rfl | exact HT.out _ (by repeat (first | exact Fr.refl _ _ | apply Fr.drew | refine Fr.alloc ?_ _))) ?_ ?_
            rotate_left 1
            · intro w; go_simp <;> with_reducible rfl
            try simp only [Act.put, List.setIfInBounds_toArray, List.set_cons_zero, List.set_cons_succ]
            refine rt_take 4 (v := ?_) rfl (by kernel_rfl) (by kernel_rfl) (by kernel_rfl) (by kernel_rfl) (fun _ _ _ h => h) (by rfl) (by first | assumption | exact HS0 _ rfl | exact HT.out _ (by repeat (first | exact Fr.refl _ _ | apply Fr.drew | refine Fr.alloc ?_ _))) ?_ ?_
            rotate_left 1
            · intro w hSw; go_simp <;> with_reducible rfl
            try simp only [Act.put, List.setIfInBounds_toArray, List.set_cons_zero, List.set_cons_succ]
            refine rt_one 5 rfl (by kernel_rfl) (fun K hK => ?_)
            have z0 := HBd.out.cell 0
            have z1 := HBd.out.cell 1
            have z2 := HBd.out.cell 2
            have z3 := HBd.out.cell 3
            have z4 := HBd.out.cell 4
            have zf := HBd.out.frozen
            simp only [List.getElem?_toArray, List.getElem?_cons_zero, List.getElem?_cons_succ] at z0 z1 z2 z3 z4
            go_simp
            have hT5 := HTM.out _ _ hT0 (set5_Fr (Fr.refl (fun k => k = w.heap.size) Wd) (.inl rfl) (.int .i64 0) (.int .i64 0) (.int .i64 0) (.slice none 0 0) (.slice none 0 0))
            have HB5 := set5 HBd.out (v0 := .int .i64 0) (v1 := .int .i64 0) (v2 := .int .i64 0) (v3 := .slice none 0 0) (v4 := .slice none 0 0)
            have HF5 := set5_Fr HFd.out (.inr (Nat.le_refl w.heap.size)) (.int .i64 0) (.int .i64 0) (.int .i64 0) (.slice none 0 0) (.slice none 0 0)
            clear z0 z1 z2 z3 z4 zf hT0
            generalize World.setCell _ _ _ = W5 at HB5 HF5 hT5 ⊢
            refine hK.out (At St) _ _ (fun _ h => h) (fun _ => by (assumption)) ?_
            clear hK K
            try simp only [Act.put, List.setIfInBounds_toArray, List.set_cons_zero, List.set_cons_succ]
            refine rt_free 6 (v := ?_) rfl (by kernel_rfl) (by kernel_rfl) (by kernel_rfl) (by kernel_rfl) (fun _ _ _ h => h) (by rfl) (fun _ => by first | assumption | exact HS0 _ rfl | exact HT.out _ (by repeat (first | exact Fr.refl _ _ | apply Fr.drew | refine Fr.alloc ?_ _))) ?_ ?_
            rotate_left 1
            · intro w; go_simp <;> with_reducible rfl
            try simp only [Act.put, List.setIfInBounds_toArray, List.set_cons_zero, List.set_cons_succ]
            refine rt_done (by kernel_rfl) ?_
            all_goals refine Calm.mk ?_
            all_goals go_wp2_with fail
            all_goals have c0 := HB5.cell 0
            all_goals have c1 := HB5.cell 1
            all_goals have c2 := HB5.cell 2
            all_goals have c3 := HB5.cell 3
            all_goals have c4 := HB5.cell 4
            all_goals simp only [List.getElem?_toArray, List.getElem?_cons_zero, List.getElem?_cons_succ] at c0 c1 c2 c3 c4
            all_goals refine bodyPost_ret (v := .tuple #[zeroV, .int .i64 e]) (by simp [results, Try.results10, go_sem, c0, c1, c2, c3, c4]) rfl ?_
            all_goals exact RefEnd.err HE.out HF5 rfl

      | ok x6 =>
        replace s1 : w6.cell? ⟨gs, 1, none⟩ = some (.int .i64 0) := s1
        have hd := HD6.out
        replace hd : decR xs = if 16 < n6 then .error 10 else
          thenR (manyR idR n6 x6) fun D e => thenR (numR e) fun nb f => if 8 < nb then .error 5 else thenR (manyR cmdR nb f) fun B g => endR (((n3 : Int), (n4 : Int)), (n5 : Int), D, B) g := hd
        clear HD6 HNZ3 HNZ4 HNZ5 HNZ6
        by_cases h16 : 16 < n6
        · rw [if_pos h16] at hd
          have HE := Lib.hid hd
          have t16 : decide ((16 : Int) < (n6 : Int)) = true := decide_eq_true (by omega)
          have HPO := Lib.hid (show 0 < n6 from by omega)
          obtain ⟨A7, c7, hs7⟩ := HST.out
          have f1 := hs7.blk.cell 1
          have ff := hs7.blk.frozen
          have HST' := Lib.hid (show RErr (w6.setCell ⟨gs, 1, none⟩ (.int .i64 10)) gs 10 from ⟨by decide, _, _, _, hs7.blk.set_ 1 (.int .i64 10)⟩)
          replace HBz := Lib.hid (HBz.out.far (p := ⟨gs, 1, none⟩) (by have := HZZ.out; show w.heap.size ≠ gs; omega) (.int .i64 10))
          replace HFz := Lib.hid (HFz.out.setCell (p := ⟨gs, 1, none⟩) (.inr (by have := HZZ.out; show w.heap.size ≤ gs; omega)) (.int .i64 10))
          clear HST hs7 hd h16 HR2
          have HST := HST'
          clear HST'
          go_wp2_with fail
          clear s1 f1 ff t16
          generalize w6.setCell ⟨gs, 1, none⟩ (.int .i64 10) = w7 at HST HBz HFz ⊢
          obtain ⟨e, he⟩ : ∃ e : Int, e = 10 := ⟨_, rfl⟩
          rw [← he] at HST HE
          clear he
          have hpo := HPO.out
          go_loopw [8] (fun i wt => i = .int .i64 0 ∧ RErr wt gs e ∧ Blk wt w.heap.size 32 #[.int .i64 0, .int .i64 0, .int .i64 0, .slice none 0 0, .slice none 0 0] ∧ Fr (fun _ => False) w wt) (fun _ _ => 0)
          case atStart => exact ⟨rfl, HST.out, HBz.out, HFz.out⟩
          case round =>
            obtain ⟨wu, rfl⟩ : ∃ x, x = wr := ⟨_, rfl⟩
            obtain ⟨rfl, hst, hbz, hfz⟩ := hrel
            have s1 := hst.cell1
            have te : (e == 0) = false := by simpa using hst.1
            clear HST HBz HFz
            have HST := Lib.hid hst
            have HBz := Lib.hid hbz
            have HFz := Lib.hid hfz
            clear hst hbz hfz
            have tm : decide ((0 : Int) < (n6 : Int)) = true := decide_eq_true (by omega)
            go_wp2_with fail
            clear s1 te

            refine (rs_num_err gs e _ HST.out).mono ?_
            rintro r wn ⟨rfl, rfl⟩
            have s1 := HST.out.cell1
            have te : (e == 0) = false := by have := HST.out.1; simpa using this
            go_wp2_with fail
            clear s1 te

            go_loopw [10] (fun i wt => i = .int .i64 0 ∧ RErr wt gs e ∧ Blk wt w.heap.size 32 #[.int .i64 0, .int .i64 0, .int .i64 0, .slice none 0 0, .slice none 0 0] ∧ Fr (fun _ => False) w wt) (fun _ _ => 0)
            case atStart => exact ⟨rfl, HST.out, HBz.out, HFz.out⟩
            case round =>
              obtain ⟨wt, rfl⟩ : ∃ x, x = wr := ⟨_, rfl⟩
              obtain ⟨rfl, hst, hbz, hfz⟩ := hrel
              have s1 := hst.cell1
              have te : (e == 0) = false := by simpa using hst.1
              clear HST HBz HFz
              have HST := Lib.hid hst
              have HBz := Lib.hid hbz
              have HFz := Lib.hid hfz
              clear hst hbz hfz
              go_wp2_with fail
              clear s1 te

              have s1 := HST.out.cell1
              have te : (e == 0) = false := by have := HST.out.1; simpa using this
              have te' : (e != 0) = true := by have := HST.out.1; simpa using this
              go_wp2_with fail
              clear s1
              obtain ⟨St, hSt⟩ : ∃ St : World → Prop, St = fun x => x.cell? ⟨gs, 1, none⟩ = some (.int .i64 e) := ⟨_, rfl⟩
              have l1 : ∀ x, At St x → x.cell? ⟨gs, 1, none⟩ = some (.int .i64 e) := fun x h => by have h1 := h.out; rw [hSt] at h1; exact h1
              have hT0 : At St (wt).drew := by unfold At; rw [hSt]; exact HST.out.cell1
              have HTM := Lib.hid (show ∀ x x', At St x → Fr (fun k => k = w.heap.size) x x' → At St x' from fun x x' h hF => by have h1 := h.out; rw [hSt] at h1; unfold At; rw [hSt]; exact hF.cell h1 (fun h2 => by have h3 : gs = w.heap.size := h2; have := HZZ.out; omega))
              clear hSt
              refine Code.wp_mono Calm.out ?_
              refine rt_start [] (At St) 7 (by kernel_rfl) rfl ?_
              have HBd := Lib.hid HBz.out.drew
              have HFd := Lib.hid HFz.out.drew
              clear HBz HFz HST
              generalize (World.drew _) = Wd at HBd HFd hT0 ⊢
              refine rt_free 0 (v := ?_) rfl (by kernel_rfl) (by kernel_rfl) (by kernel_rfl) (by kernel_rfl) (fun _ _ _ h => h) (by rfl) (fun _ => by first | assumption | exact HS0 _ rfl | exact HT.out _ (by repeat (first | exact Fr.refl _ _ | apply Fr.drew | refine Fr.alloc ?_ _))) ?_ ?_
              rotate_left 1
              · intro w; go_simp <;> with_reducible rfl
              try simp only [Act.put, List.setIfInBounds_toArray, List.set_cons_zero, List.set_cons_succ]
              refine rt_free 1 (v := ?_) rfl (by kernel_rfl) (by kernel_rfl) (by kernel_rfl) (by kernel_rfl) (fun _ _ _ h => h) (by rfl) (fun _ => by first | assumption | exact HS0 _ rfl | exact HT.out _ (by repeat (first | exact Fr.refl _ _ | apply Fr.drew | refine Fr.alloc ?_ _))) ?_ ?_
              rotate_left 1
              · intro w; go_simp <;> with_reducible rfl
              try simp only [Act.put, List.setIfInBounds_toArray, List.set_cons_zero, List.set_cons_succ]
              refine rt_free 2 (v := ?_) rfl (by kernel_rfl) (by kernel_rfl) (by kernel_rfl) (by kernel_rfl) (fun _ _ _ h => h) (by rfl) (fun _ => by first | assumption | exact HS0 _ rfl | exact HT.out _ (by repeat (first | exact Fr.refl _ _ | apply Fr.drew | refine Fr.alloc ?_ _))) ?_ ?_
              rotate_left 1
              · intro w; go_simp <;> with_reducible rfl
              try simp only [Act.put, List.setIfInBounds_toArray, List.set_cons_zero, List.set_cons_succ]
              refine rt_free 3 (v := ?_) rfl (by kernel_rfl) (by kernel_rfl) (by kernel_rfl) (by kernel_rfl) (fun _ _ _ h => h) (by rfl) (fun _ => by first | assumption | exact HS0 _ rfl | exact HT.out _ (by repeat (first | exact Fr.refl _ _ | apply Fr.drew | refine Fr.alloc ?_ _))) ?_ ?_
              rotate_left 1
              · intro w; go_simp <;> with_reducible rfl
              try simp only [Act.put, List.setIfInBounds_toArray, List.set_cons_zero, List.set_cons_succ]
              refine rt_take 4 (v := ?_) rfl (by kernel_rfl) (by kernel_rfl) (by kernel_rfl) (by kernel_rfl) (fun _ _ _ h => h) (by rfl) (by first | assumption | exact HS0 _ rfl | exact HT.out _ (by repeat (first | exact Fr.refl _ _ | apply Fr.drew | refine Fr.alloc ?_ _))) ?_ ?_
              rotate_left 1
              · intro w hSw; go_simp <;> with_reducible rfl
              try simp only [Act.put, List.setIfInBounds_toArray, List.set_cons_zero, List.set_cons_succ]
              refine rt_one 5 rfl (by kernel_rfl) (fun K hK => ?_)
              have z0 := HBd.out.cell 0
              have z1 := HBd.out.cell 1
              have z2 := HBd.out.cell 2
              have z3 := HBd.out.cell 3
              have z4 := HBd.out.cell 4
              have zf := HBd.out.frozen
              simp only [List.getElem?_toArray, List.getElem?_cons_zero, List.getElem?_cons_succ] at z0 z1 z2 z3 z4
              go_simp
              have hT5 := HTM.out _ _ hT0 (set5_Fr (Fr.refl (fun k => k = w.heap.size) Wd) (.inl rfl) (.int .i64 0) (.int .i64 0) (.int .i64 0) (.slice none 0 0) (.slice none 0 0))
              have HB5 := set5 HBd.out (v0 := .int .i64 0) (v1 := .int .i64 0) (v2 := .int .i64 0) (v3 := .slice none 0 0) (v4 := .slice none 0 0)
              have HF5 := set5_Fr HFd.out (.inr (Nat.le_refl w.heap.size)) (.int .i64 0) (.int .i64 0) (.int .i64 0) (.slice none 0 0) (.slice none 0 0)
              clear z0 z1 z2 z3 z4 zf hT0
              generalize World.setCell _ _ _ = W5 at HB5 HF5 hT5 ⊢
              refine hK.out (At St) _ _ (fun _ h => h) (fun _ => by (assumption)) ?_
              clear hK K
              try simp only [Act.put, List.setIfInBounds_toArray, List.set_cons_zero, List.set_cons_succ]
              refine rt_free 6 (v := ?_) rfl (by kernel_rfl) (by kernel_rfl) (by kernel_rfl) (by kernel_rfl) (fun _ _ _ h => h) (by rfl) (fun _ => by first | assumption | exact HS0 _ rfl | exact HT.out _ (by repeat (first | exact Fr.refl _ _ | apply Fr.drew | refine Fr.alloc ?_ _))) ?_ ?_
              rotate_left 1
              · intro w; go_simp <;> with_reducible rfl
              try simp only [Act.put, List.setIfInBounds_toArray, List.set_cons_zero, List.set_cons_succ]
              refine rt_done (by kernel_rfl) ?_
              all_goals refine Calm.mk ?_
              all_goals go_wp2_with fail
              all_goals have c0 := HB5.cell 0
              all_goals have c1 := HB5.cell 1
              all_goals have c2 := HB5.cell 2
              all_goals have c3 := HB5.cell 3
              all_goals have c4 := HB5.cell 4
              all_goals simp only [List.getElem?_toArray, List.getElem?_cons_zero, List.getElem?_cons_succ] at c0 c1 c2 c3 c4
              all_goals refine bodyPost_ret (v := .tuple #[zeroV, .int .i64 e]) (by simp [results, Try.results10, go_sem, c0, c1, c2, c3, c4]) rfl ?_
              all_goals exact RefEnd.err HE.out HF5 rfl

        · rw [if_neg h16] at hd
          have HDD := Lib.hid hd
          have HND := Lib.hid (show n6 ≤ 16 from by omega)
          have t16 : decide ((16 : Int) < (n6 : Int)) = false := decide_eq_false (by omega)
          have HBS := Lib.hid (show gs + 1 < w6.heap.size from HR2.out.lt)
          clear hd h16
          go_wp2_with fail
          clear s1 t16
          go_loopw [8] (fun i wr => ∃ (k : Nat) (D : List (Int × Int)) (m : Left) (Ad : Option Addr) (cd : Nat), k ≤ n6 ∧ i = .int .i64 k ∧ D.length = k ∧ (∀ ys, m = .ok ys → manyR idR k x6 = .ok (D, ys)) ∧ (∀ e, m = .error e → manyR idR n6 x6 = .error e) ∧ RSt wr gs m ∧ Blk wr (gs + 1) 32 #[.int .i64 (n3 : Int), .int .i64 (n4 : Int), .int .i64 (n5 : Int), .slice Ad D.length cd, .slice none 0 0] ∧ Blk wr w.heap.size 32 #[.int .i64 0, .int .i64 0, .int .i64 0, .slice none 0 0, .slice none 0 0] ∧ idK.R 28 wr w6.heap.size (fun b => w6.heap.size ≤ b) (.slice Ad D.length cd) D ∧ Fr (fun _ => False) w wr ∧ w6.heap.size ≤ wr.heap.size) (fun i _ => n6 - (intOf i).toNat)
          case atStart => exact ⟨0, [], .ok x6, none, 0, Nat.zero_le _, rfl, rfl, fun ys h => (by injection h with h; rw [h]; rfl), fun e h => (by cases h), HST.out, HR2.out, HBz.out, Kd.R_nil _ _ _ _ _, HFz.out, Nat.le_refl _⟩
          case round =>
            obtain ⟨wp, rfl⟩ : ∃ x, x = wr := ⟨_, rfl⟩
            obtain ⟨k, D, m, Ad, cd, hk, rfl, hDl, hM, hME, hS, hR, hB, hD, hF, hZ⟩ := hrel
            clear HST HR2 HBz HFz
            have HST := Lib.hid hS
            have HR2 := Lib.hid hR
            have HBz := Lib.hid hB
            have HDr := Lib.hid hD
            have HFz := Lib.hid hF
            have HZr := Lib.hid hZ
            have HM := Lib.hid hM
            have HME := Lib.hid hME
            have HDL := Lib.hid hDl
            have s1 := hS.cell1
            clear hS hR hB hD hF hZ hM hME hDl
            cases m with
            | error e =>
              have HE := Lib.hid (show decR xs = .error e from by rw [HDD.out, HME.out e rfl]; rfl)
              have te : (e == 0) = false := by simpa using (HST.out.err rfl).2
              replace s1 : wp.cell? ⟨gs, 1, none⟩ = some (.int .i64 e) := s1
              replace HST := Lib.hid (show RErr wp gs e from HST.out)
              clear HM HME HDr HR2
              rcases Nat.lt_or_ge k n6 with hlt | hge
              · have tk : decide ((k : Int) < (n6 : Int)) = true := decide_eq_true (by omega)
                go_wp2_with fail
                clear s1 te tk
                refine (rs_num_err gs e _ HST.out).mono ?_
                rintro r wn ⟨rfl, rfl⟩
                have s1 := HST.out.cell1
                have te : (e == 0) = false := by have := HST.out.1; simpa using this
                go_wp2_with fail
                clear s1 te

                go_loopw [10] (fun i wt => i = .int .i64 0 ∧ RErr wt gs e ∧ Blk wt w.heap.size 32 #[.int .i64 0, .int .i64 0, .int .i64 0, .slice none 0 0, .slice none 0 0] ∧ Fr (fun _ => False) w wt) (fun _ _ => 0)
                case atStart => exact ⟨rfl, HST.out, HBz.out, HFz.out⟩
                case round =>
                  obtain ⟨wt, rfl⟩ : ∃ x, x = wr := ⟨_, rfl⟩
                  obtain ⟨rfl, hst, hbz, hfz⟩ := hrel
                  have s1 := hst.cell1
                  have te : (e == 0) = false := by simpa using hst.1
                  clear HST HBz HFz
                  have HST := Lib.hid hst
                  have HBz := Lib.hid hbz
                  have HFz := Lib.hid hfz
                  clear hst hbz hfz
                  go_wp2_with fail
                  clear s1 te

                  have s1 := HST.out.cell1
                  have te : (e == 0) = false := by have := HST.out.1; simpa using this
                  have te' : (e != 0) = true := by have := HST.out.1; simpa using this
                  go_wp2_with fail
                  clear s1
                  obtain ⟨St, hSt⟩ : ∃ St : World → Prop, St = fun x => x.cell? ⟨gs, 1, none⟩ = some (.int .i64 e) := ⟨_, rfl⟩
                  have l1 : ∀ x, At St x → x.cell? ⟨gs, 1, none⟩ = some (.int .i64 e) := fun x h => by have h1 := h.out; rw [hSt] at h1; exact h1
                  have hT0 : At St (wt).drew := by unfold At; rw [hSt]; exact HST.out.cell1
                  have HTM := Lib.hid (show ∀ x x', At St x → Fr (fun k => k = w.heap.size) x x' → At St x' from fun x x' h hF => by have h1 := h.out; rw [hSt] at h1; unfold At; rw [hSt]; exact hF.cell h1 (fun h2 => by have h3 : gs = w.heap.size := h2; have := HZZ.out; omega))
                  clear hSt
                  refine Code.wp_mono Calm.out ?_
                  refine rt_start [] (At St) 7 (by kernel_rfl) rfl ?_
                  have HBd := Lib.hid HBz.out.drew
                  have HFd := Lib.hid HFz.out.drew
                  clear HBz HFz HST
                  generalize (World.drew _) = Wd at HBd HFd hT0 ⊢
                  refine rt_free 0 (v := ?_) rfl (by kernel_rfl) (by kernel_rfl) (by kernel_rfl) (by kernel_rfl) (fun _ _ _ h => h) (by rfl) (fun _ => by first | assumption | exact HS0 _ rfl | exact HT.out _ (by repeat (first | exact Fr.refl _ _ | apply Fr.drew | refine Fr.alloc ?_ _))) ?_ ?_
                  rotate_left 1
                  · intro w; go_simp <;> with_reducible rfl
                  try simp only [Act.put, List.setIfInBounds_toArray, List.set_cons_zero, List.set_cons_succ]
                  refine rt_free 1 (v := ?_) rfl (by kernel_rfl) (by kernel_rfl) (by kernel_rfl) (by kernel_rfl) (fun _ _ _ h => h) (by rfl) (fun _ => by first | assumption | exact HS0 _ rfl | exact HT.out _ (by repeat (first | exact Fr.refl _ _ | apply Fr.drew | refine Fr.alloc ?_ _))) ?_ ?_
                  rotate_left 1
                  · intro w; go_simp <;> with_reducible rfl
                  try simp only [Act.put, List.setIfInBounds_toArray, List.set_cons_zero, List.set_cons_succ]
                  refine rt_free 2 (v := ?_) rfl (by kernel_rfl) (by kernel_rfl) (by kernel_rfl) (by kernel_rfl) (fun _ _ _ h => h) (by rfl) (fun _ => by first | assumption | exact HS0 _ rfl | exact HT.out _ (by repeat (first | exact Fr.refl _ _ | apply Fr.drew | refine Fr.alloc ?_ _))) ?_ ?_
                  rotate_left 1
                  · intro w; go_simp <;> with_reducible rfl
                  try simp only [Act.put, List.setIfInBounds_toArray, List.set_cons_zero, List.set_cons_succ]
                  refine rt_free 3 (v := ?_) rfl (by kernel_rfl) (by kernel_rfl) (by kernel_rfl) (by kernel_rfl) (fun _ _ _ h => h) (by rfl) (fun _ => by first | assumption | exact HS0 _ rfl | exact HT.out _ (by repeat (first | exact Fr.refl _ _ | apply Fr.drew | refine Fr.alloc ?_ _))) ?_ ?_
                  rotate_left 1
                  · intro w; go_simp <;> with_reducible rfl
                  try simp only [Act.put, List.setIfInBounds_toArray, List.set_cons_zero, List.set_cons_succ]
                  refine rt_take 4 (v := ?_) rfl (by kernel_rfl) (by kernel_rfl) (by kernel_rfl) (by kernel_rfl) (fun _ _ _ h => h) (by rfl) (by first | assumption | exact HS0 _ rfl | exact HT.out _ (by repeat (first | exact Fr.refl _ _ | apply Fr.drew | refine Fr.alloc ?_ _))) ?_ ?_
                  rotate_left 1
                  · intro w hSw; go_simp <;> with_reducible rfl
                  try simp only [Act.put, List.setIfInBounds_toArray, List.set_cons_zero, List.set_cons_succ]
                  refine rt_one 5 rfl (by kernel_rfl) (fun K hK => ?_)
                  have z0 := HBd.out.cell 0
                  have z1 := HBd.out.cell 1
                  have z2 := HBd.out.cell 2
                  have z3 := HBd.out.cell 3
                  have z4 := HBd.out.cell 4
                  have zf := HBd.out.frozen
                  simp only [List.getElem?_toArray, List.getElem?_cons_zero, List.getElem?_cons_succ] at z0 z1 z2 z3 z4
                  go_simp
                  have hT5 := HTM.out _ _ hT0 (set5_Fr (Fr.refl (fun k => k = w.heap.size) Wd) (.inl rfl) (.int .i64 0) (.int .i64 0) (.int .i64 0) (.slice none 0 0) (.slice none 0 0))
                  have HB5 := set5 HBd.out (v0 := .int .i64 0) (v1 := .int .i64 0) (v2 := .int .i64 0) (v3 := .slice none 0 0) (v4 := .slice none 0 0)
                  have HF5 := set5_Fr HFd.out (.inr (Nat.le_refl w.heap.size)) (.int .i64 0) (.int .i64 0) (.int .i64 0) (.slice none 0 0) (.slice none 0 0)
                  clear z0 z1 z2 z3 z4 zf hT0
                  generalize World.setCell _ _ _ = W5 at HB5 HF5 hT5 ⊢
                  refine hK.out (At St) _ _ (fun _ h => h) (fun _ => by (assumption)) ?_
                  clear hK K
                  try simp only [Act.put, List.setIfInBounds_toArray, List.set_cons_zero, List.set_cons_succ]
                  refine rt_free 6 (v := ?_) rfl (by kernel_rfl) (by kernel_rfl) (by kernel_rfl) (by kernel_rfl) (fun _ _ _ h => h) (by rfl) (fun _ => by first | assumption | exact HS0 _ rfl | exact HT.out _ (by repeat (first | exact Fr.refl _ _ | apply Fr.drew | refine Fr.alloc ?_ _))) ?_ ?_
                  rotate_left 1
                  · intro w; go_simp <;> with_reducible rfl
                  try simp only [Act.put, List.setIfInBounds_toArray, List.set_cons_zero, List.set_cons_succ]
                  refine rt_done (by kernel_rfl) ?_
                  all_goals refine Calm.mk ?_
                  all_goals go_wp2_with fail
                  all_goals have c0 := HB5.cell 0
                  all_goals have c1 := HB5.cell 1
                  all_goals have c2 := HB5.cell 2
                  all_goals have c3 := HB5.cell 3
                  all_goals have c4 := HB5.cell 4
                  all_goals simp only [List.getElem?_toArray, List.getElem?_cons_zero, List.getElem?_cons_succ] at c0 c1 c2 c3 c4
                  all_goals refine bodyPost_ret (v := .tuple #[zeroV, .int .i64 e]) (by simp [results, Try.results10, go_sem, c0, c1, c2, c3, c4]) rfl ?_
                  all_goals exact RefEnd.err HE.out HF5 rfl
              · have tk : decide ((k : Int) < (n6 : Int)) = false := decide_eq_false (by omega)
                clear te
                go_wp2_with fail
                clear s1 tk
                refine (rs_num_err gs e _ HST.out).mono ?_
                rintro r wn ⟨rfl, rfl⟩
                have s1 := HST.out.cell1
                have te : (e == 0) = false := by have := HST.out.1; simpa using this
                go_wp2_with fail
                clear s1 te

                go_loopw [10] (fun i wt => i = .int .i64 0 ∧ RErr wt gs e ∧ Blk wt w.heap.size 32 #[.int .i64 0, .int .i64 0, .int .i64 0, .slice none 0 0, .slice none 0 0] ∧ Fr (fun _ => False) w wt) (fun _ _ => 0)
                case atStart => exact ⟨rfl, HST.out, HBz.out, HFz.out⟩
                case round =>
                  obtain ⟨wt, rfl⟩ : ∃ x, x = wr := ⟨_, rfl⟩
                  obtain ⟨rfl, hst, hbz, hfz⟩ := hrel
                  have s1 := hst.cell1
                  have te : (e == 0) = false := by simpa using hst.1
                  clear HST HBz HFz
                  have HST := Lib.hid hst
                  have HBz := Lib.hid hbz
                  have HFz := Lib.hid hfz
                  clear hst hbz hfz
                  go_wp2_with fail
                  clear s1 te

                  have s1 := HST.out.cell1
                  have te : (e == 0) = false := by have := HST.out.1; simpa using this
                  have te' : (e != 0) = true := by have := HST.out.1; simpa using this
                  go_wp2_with fail
                  clear s1
                  obtain ⟨St, hSt⟩ : ∃ St : World → Prop, St = fun x => x.cell? ⟨gs, 1, none⟩ = some (.int .i64 e) := ⟨_, rfl⟩
                  have l1 : ∀ x, At St x → x.cell? ⟨gs, 1, none⟩ = some (.int .i64 e) := fun x h => by have h1 := h.out; rw [hSt] at h1; exact h1
                  have hT0 : At St (wt).drew := by unfold At; rw [hSt]; exact HST.out.cell1
                  have HTM := Lib.hid (show ∀ x x', At St x → Fr (fun k => k = w.heap.size) x x' → At St x' from fun x x' h hF => by have h1 := h.out; rw [hSt] at h1; unfold At; rw [hSt]; exact hF.cell h1 (fun h2 => by have h3 : gs = w.heap.size := h2; have := HZZ.out; omega))
                  clear hSt
                  refine Code.wp_mono Calm.out ?_
                  refine rt_start [] (At St) 7 (by kernel_rfl) rfl ?_
                  have HBd := Lib.hid HBz.out.drew
                  have HFd := Lib.hid HFz.out.drew
                  clear HBz HFz HST
                  generalize (World.drew _) = Wd at HBd HFd hT0 ⊢
                  refine rt_free 0 (v := ?_) rfl (by kernel_rfl) (by kernel_rfl) (by kernel_rfl) (by kernel_rfl) (fun _ _ _ h => h) (by rfl) (fun _ => by first | assumption | exact HS0 _ rfl | exact HT.out _ (by repeat (first | exact Fr.refl _ _ | apply Fr.drew | refine Fr.alloc ?_ _))) ?_ ?_
                  rotate_left 1
                  · intro w; go_simp <;> with_reducible rfl
                  try simp only [Act.put, List.setIfInBounds_toArray, List.set_cons_zero, List.set_cons_succ]
                  refine rt_free 1 (v := ?_) rfl (by kernel_rfl) (by kernel_rfl) (by kernel_rfl) (by kernel_rfl) (fun _ _ _ h => h) (by rfl) (fun _ => by first | assumption | exact HS0 _ rfl | exact HT.out _ (by repeat (first | exact Fr.refl _ _ | apply Fr.drew | refine Fr.alloc ?_ _))) ?_ ?_
                  rotate_left 1
                  · intro w; go_simp <;> with_reducible rfl
                  try simp only [Act.put, List.setIfInBounds_toArray, List.set_cons_zero, List.set_cons_succ]
                  refine rt_free 2 (v := ?_) rfl (by kernel_rfl) (by kernel_rfl) (by kernel_rfl) (by kernel_rfl) (fun _ _ _ h => h) (by rfl) (fun _ => by first | assumption | exact HS0 _ rfl | exact HT.out _ (by repeat (first | exact Fr.refl _ _ | apply Fr.drew | refine Fr.alloc ?_ _))) ?_ ?_
                  rotate_left 1
                  · intro w; go_simp <;> with_reducible rfl
                  try simp only [Act.put, List.setIfInBounds_toArray, List.set_cons_zero, List.set_cons_succ]
                  refine rt_free 3 (v := ?_) rfl (by kernel_rfl) (by kernel_rfl) (by kernel_rfl) (by kernel_rfl) (fun _ _ _ h => h) (by rfl) (fun _ => by first | assumption | exact HS0 _ rfl | exact HT.out _ (by repeat (first | exact Fr.refl _ _ | apply Fr.drew | refine Fr.alloc ?_ _))) ?_ ?_
                  rotate_left 1
                  · intro w; go_simp <;> with_reducible rfl
                  try simp only [Act.put, List.setIfInBounds_toArray, List.set_cons_zero, List.set_cons_succ]
                  refine rt_take 4 (v := ?_) rfl (by kernel_rfl) (by kernel_rfl) (by kernel_rfl) (by kernel_rfl) (fun _ _ _ h => h) (by rfl) (by first | assumption | exact HS0 _ rfl | exact HT.out _ (by repeat (first | exact Fr.refl _ _ | apply Fr.drew | refine Fr.alloc ?_ _))) ?_ ?_
                  rotate_left 1
                  · intro w hSw; go_simp <;> with_reducible rfl
                  try simp only [Act.put, List.setIfInBounds_toArray, List.set_cons_zero, List.set_cons_succ]
                  refine rt_one 5 rfl (by kernel_rfl) (fun K hK => ?_)
                  have z0 := HBd.out.cell 0
                  have z1 := HBd.out.cell 1
                  have z2 := HBd.out.cell 2
                  have z3 := HBd.out.cell 3
                  have z4 := HBd.out.cell 4
                  have zf := HBd.out.frozen
                  simp only [List.getElem?_toArray, List.getElem?_cons_zero, List.getElem?_cons_succ] at z0 z1 z2 z3 z4
                  go_simp
                  have hT5 := HTM.out _ _ hT0 (set5_Fr (Fr.refl (fun k => k = w.heap.size) Wd) (.inl rfl) (.int .i64 0) (.int .i64 0) (.int .i64 0) (.slice none 0 0) (.slice none 0 0))
                  have HB5 := set5 HBd.out (v0 := .int .i64 0) (v1 := .int .i64 0) (v2 := .int .i64 0) (v3 := .slice none 0 0) (v4 := .slice none 0 0)
                  have HF5 := set5_Fr HFd.out (.inr (Nat.le_refl w.heap.size)) (.int .i64 0) (.int .i64 0) (.int .i64 0) (.slice none 0 0) (.slice none 0 0)
                  clear z0 z1 z2 z3 z4 zf hT0
                  generalize World.setCell _ _ _ = W5 at HB5 HF5 hT5 ⊢
                  refine hK.out (At St) _ _ (fun _ h => h) (fun _ => by (assumption)) ?_
                  clear hK K
                  try simp only [Act.put, List.setIfInBounds_toArray, List.set_cons_zero, List.set_cons_succ]
                  refine rt_free 6 (v := ?_) rfl (by kernel_rfl) (by kernel_rfl) (by kernel_rfl) (by kernel_rfl) (fun _ _ _ h => h) (by rfl) (fun _ => by first | assumption | exact HS0 _ rfl | exact HT.out _ (by repeat (first | exact Fr.refl _ _ | apply Fr.drew | refine Fr.alloc ?_ _))) ?_ ?_
                  rotate_left 1
                  · intro w; go_simp <;> with_reducible rfl
                  try simp only [Act.put, List.setIfInBounds_toArray, List.set_cons_zero, List.set_cons_succ]
                  refine rt_done (by kernel_rfl) ?_
                  all_goals refine Calm.mk ?_
                  all_goals go_wp2_with fail
                  all_goals have c0 := HB5.cell 0
                  all_goals have c1 := HB5.cell 1
                  all_goals have c2 := HB5.cell 2
                  all_goals have c3 := HB5.cell 3
                  all_goals have c4 := HB5.cell 4
                  all_goals simp only [List.getElem?_toArray, List.getElem?_cons_zero, List.getElem?_cons_succ] at c0 c1 c2 c3 c4
                  all_goals refine bodyPost_ret (v := .tuple #[zeroV, .int .i64 e]) (by simp [results, Try.results10, go_sem, c0, c1, c2, c3, c4]) rfl ?_
                  all_goals exact RefEnd.err HE.out HF5 rfl
            | ok ys =>
              replace s1 : wp.cell? ⟨gs, 1, none⟩ = some (.int .i64 0) := s1
              rcases Nat.lt_or_ge k n6 with hlt | hge
              · have tk : decide ((k : Int) < (n6 : Int)) = true := decide_eq_true (by omega)
                have k100 : k < 100 := by have := HND.out; omega
                have hA7 := (Fr.refl (fun _ => False) wp).alloc (.cells #[.int .i64 0, .int .i64 0] 28)
                have HI7 := Lib.hid (Blk.new wp 28 #[.int .i64 0, .int .i64 0])
                have HST7 := Lib.hid (HST.out.fr (hA7.mono (fun _ _ h => h.elim)))
                have HR7 := Lib.hid (HR2.out.fr hA7 (fun h => h))
                have HBz7 := Lib.hid (HBz.out.fr hA7 (fun h => h))
                have HFz7 := Lib.hid (HFz.out.trans hA7)
                have HD7 := Lib.hid (Kd.R_alloc (Kd.R_mono (Kd.R_bound HDr.out) (ok' := fun b => w6.heap.size ≤ b ∧ b ≠ wp.heap.size) (fun b hb => ⟨hb.1, Nat.ne_of_lt hb.2.2.1⟩)) (.cells #[.int .i64 0, .int .i64 0] 28))
                have HZ7 := Lib.hid (Nat.le_trans HZr.out hA7.size)
                clear hA7 HST HR2 HBz HFz HDr
                go_wp2_with fail
                clear s1 tk
                generalize World.alloc _ _ = w7 at HI7 HST7 HR7 HBz7 HFz7 HD7 HZ7 ⊢
                have HGD := Lib.hid (show w6.heap.size ≤ wp.heap.size from HZr.out)
                generalize wp.heap.size = gd at HI7 HGD HD7 ⊢
                clear HZr
                refine (rs_numS gs (.ok ys) w7 HST7.out).mono ?_
                rintro r w8 ⟨rfl, hS, hF⟩
                obtain ⟨a, ha⟩ : ∃ n, n = (numS (.ok ys)).1 := ⟨_, rfl⟩
                obtain ⟨ma, hma⟩ : ∃ m, m = (numS (.ok ys)).2 := ⟨_, rfl⟩
                rw [← hma] at hS
                rw [← ha]
                have HA1 := Lib.hid (And.intro ha hma)
                have HI8 := Lib.hid (HI7.out.fr hF (fun e => by have := HGD.out; have := HBS.out; omega))
                have HR8 := Lib.hid (HR7.out.fr hF (fun e => by omega))
                have HBz8 := Lib.hid (HBz7.out.fr hF (fun e => by have := HZZ.out; omega))
                have HFz8 := Lib.hid (HFz7.out.trans' hF (fun i hi h => by have := HZZ.out; omega))
                have HD8 := Lib.hid (Kd.R_step HD7.out (fun b hb hl => hF.block b hl (fun e => by have h1 := hb.1; have := HBS.out; omega)))
                have HZ8 := Lib.hid (Nat.le_trans HZ7.out hF.size)
                have HST8 := Lib.hid hS
                clear ha hma hS hF HI7 HR7 HBz7 HFz7 HD7 HZ7 HST7
                have k0 := HI8.out.cell 0
                have kf := HI8.out.frozen
                simp only [List.getElem?_toArray, List.getElem?_cons_zero, List.getElem?_cons_succ] at k0
                go_wp2_with fail
                clear k0 kf
                have hI := HI8.out.set_ 0 (.int .i64 (a : Int))
                replace HI8 := Lib.hid (show Blk (w8.setCell ⟨gd, 0, none⟩ (.int .i64 (a : Int))) gd 28 #[.int .i64 (a : Int), .int .i64 0] from hI)
                replace HR8 := Lib.hid (HR8.out.far (p := ⟨gd, 0, none⟩) (by have := HGD.out; have := HBS.out; show gs + 1 ≠ gd; omega) (.int .i64 (a : Int)))
                replace HBz8 := Lib.hid (HBz8.out.far (p := ⟨gd, 0, none⟩) (by have := HGD.out; have := HBS.out; have := HZZ.out; show w.heap.size ≠ gd; omega) (.int .i64 (a : Int)))
                replace HFz8 := Lib.hid (HFz8.out.setCell (p := ⟨gd, 0, none⟩) (.inr (by have := HGD.out; have := HBS.out; have := HZZ.out; show w.heap.size ≤ gd; omega)) (.int .i64 (a : Int)))
                replace HD8 := Lib.hid (Kd.R_far HD8.out (p := ⟨gd, 0, none⟩) (fun b hb => hb.2) (.int .i64 (a : Int)))
                replace HST8 := Lib.hid (HST8.out.fr ((Fr.refl (fun k => gs < k) w8).setCell (p := ⟨gd, 0, none⟩) (.inl (by have := HGD.out; have := HBS.out; show gs < gd; omega)) (.int .i64 (a : Int))))
                replace HZ8 := Lib.hid (Nat.le_trans HZ8.out (Nat.le_of_eq (show w8.heap.size = (w8.setCell ⟨gd, 0, none⟩ (.int .i64 (a : Int))).heap.size from by simp [World.setCell])))
                clear hI
                generalize w8.setCell ⟨gd, 0, none⟩ (.int .i64 (a : Int)) = w9 at HI8 HR8 HBz8 HFz8 HD8 HST8 HZ8 ⊢
                refine (rs_numS gs ma w9 HST8.out).mono ?_
                rintro r w10 ⟨rfl, hS, hF⟩
                obtain ⟨b, hb'⟩ : ∃ n, n = (numS ma).1 := ⟨_, rfl⟩
                obtain ⟨mb, hmb⟩ : ∃ m, m = (numS ma).2 := ⟨_, rfl⟩
                rw [← hmb] at hS
                rw [← hb']
                have HB1 := Lib.hid (And.intro hb' hmb)
                replace HI8 := Lib.hid (HI8.out.fr hF (fun e => by have := HGD.out; have := HBS.out; omega))
                replace HR8 := Lib.hid (HR8.out.fr hF (fun e => by omega))
                replace HBz8 := Lib.hid (HBz8.out.fr hF (fun e => by have := HZZ.out; omega))
                replace HFz8 := Lib.hid (HFz8.out.trans' hF (fun i hi h => by have := HZZ.out; omega))
                replace HD8 := Lib.hid (Kd.R_step HD8.out (fun b hb hl => hF.block b hl (fun e => by have h1 := hb.1; have := HBS.out; omega)))
                replace HZ8 := Lib.hid (Nat.le_trans HZ8.out hF.size)
                replace HST8 := Lib.hid hS
                clear hb' hmb hS hF
                have k0 := HI8.out.cell 1
                have kf := HI8.out.frozen
                simp only [List.getElem?_toArray, List.getElem?_cons_zero, List.getElem?_cons_succ] at k0
                have hI := HI8.out.set_ 1 (.int .i64 (b : Int))
                have HI9 := Lib.hid (show Blk (w10.setCell ⟨gd, 1, none⟩ (.int .i64 (b : Int))) gd 28 #[.int .i64 (a : Int), .int .i64 (b : Int)] from hI)
                have q0 := HI9.out.cell 0
                have q1 := HI9.out.cell 1
                replace HR8 := Lib.hid (HR8.out.far (p := ⟨gd, 1, none⟩) (by have := HGD.out; have := HBS.out; show gs + 1 ≠ gd; omega) (.int .i64 (b : Int)))
                have q3 := HR8.out.cell 3
                simp only [List.getElem?_toArray, List.getElem?_cons_zero, List.getElem?_cons_succ] at q0 q1 q3
                replace HBz8 := Lib.hid (HBz8.out.far (p := ⟨gd, 1, none⟩) (by have := HGD.out; have := HBS.out; have := HZZ.out; show w.heap.size ≠ gd; omega) (.int .i64 (b : Int)))
                replace HFz8 := Lib.hid (HFz8.out.setCell (p := ⟨gd, 1, none⟩) (.inr (by have := HGD.out; have := HBS.out; have := HZZ.out; show w.heap.size ≤ gd; omega)) (.int .i64 (b : Int)))
                replace HD8 := Lib.hid (Kd.R_far HD8.out (p := ⟨gd, 1, none⟩) (fun b hb => hb.2) (.int .i64 (b : Int)))
                replace HST8 := Lib.hid (HST8.out.fr ((Fr.refl (fun k => gs < k) w10).setCell (p := ⟨gd, 1, none⟩) (.inl (by have := HGD.out; have := HBS.out; show gs < gd; omega)) (.int .i64 (b : Int))))
                replace HZ8 := Lib.hid (Nat.le_trans HZ8.out (Nat.le_of_eq (show w10.heap.size = (w10.setCell ⟨gd, 1, none⟩ (.int .i64 (b : Int))).heap.size from by simp [World.setCell])))
                clear hI
                obtain ⟨w11, hw11⟩ : ∃ w11, w11 = w10.setCell ⟨gd, 1, none⟩ (.int .i64 (b : Int)) := ⟨_, rfl⟩
                rw [← hw11] at HI9 HR8 HBz8 HFz8 HD8 HST8 HZ8 q0 q1 q3
                have hset : w10.setCell ⟨gd, 1, none⟩ (.int .i64 (b : Int)) = w11 := hw11.symm
                clear hw11
                go_wp2_with (at_builtin; refine Kd.R_append idK w6.heap.size rfl (.tmp 80) (.tmp 82) 29 28 _ 16 rfl Try.underlying29 info_id rfl (show 0 < idK.sz by decide) (by decide) (.slice Ad D.length cd) D ((a : Int), (b : Int)) (idCells ((a : Int), (b : Int))) (fun b => w6.heap.size ≤ b ∧ b ≠ gd) (fun _ => False) (by rfl) (by rfl) (idK_M _ _ _ _) (fun _ h => h.elim) (fun b hb => ⟨Nat.le_trans HZ8.out hb, fun e => by have := HI9.out.lt; omega⟩) HD8.out (Below.refl _ _) HZ8.out (by have := HDL.out; omega) ?_; intro v1 W9 hR9 hB9 hg9 hat9; obtain ⟨A9, c9, rfl⟩ := Kd.R_slice hR9; have hX9 := HR8.out.fr (Fr.of_grown hg9) (Kd.R_ne HD8.out HR8.out (by decide)); have k3 := hX9.cell 3; have kf := hX9.frozen; simp only [List.getElem?_toArray, List.getElem?_cons_zero, List.getElem?_cons_succ] at k3; have HX9 := Lib.hid hX9; have HD9 := Lib.hid hR9; have HG9 := Lib.hid hg9; clear hX9 hR9 hB9 hg9 hat9)
                have hgf : Fr (fun b => w6.heap.size ≤ b ∧ b ≠ gd) w11 W9 := (Fr.of_grown HG9.out).mono (fun i hi h => HD8.out.1 i h.symm)
                have HGF := Lib.hid hgf
                have HNL := Lib.hid (show (D ++ [((a : Int), (b : Int))]).length = k + 1 from by rw [List.length_append, HDL.out]; rfl)
                have HIS := Lib.hid (idS HA1.out HB1.out)
                clear hgf k3 kf q0 q1 q3 hset k0
                go_roundw
                case rel =>
                  refine ⟨k + 1, D ++ [((a : Int), (b : Int))], mb, A9, c9, by omega, by go_num, HNL.out, fun zs h => manyR_step (HM.out ys rfl) (by rw [HIS.out, h]; rfl), fun e h => manyR_err (HM.out ys rfl) (by rw [HIS.out, h]; rfl) n6 hlt, ?_, ?_, ?_, ?_, ?_, ?_⟩
                  · exact HST8.out.fr ((HGF.out.mono (fun i hi h => by have h1 := h.1; have := HBS.out; show gs < i; omega)).setCell (p := ⟨gs + 1, 3, none⟩) (.inl (Nat.lt_succ_self _)) _)
                  · rw [show (D ++ [((a : Int), (b : Int))]).length = D.length + 1 from by simp]
                    exact HX9.out.set_ 3 _
                  · exact (HBz8.out.fr HGF.out (fun h => by have h1 := h.1; have := HBS.out; have := HZZ.out; omega)).far (p := ⟨gs + 1, 3, none⟩) (by have := HZZ.out; show w.heap.size ≠ gs + 1; omega) _
                  · exact Kd.R_far (Kd.R_mono HD9.out (ok' := fun b => w6.heap.size ≤ b) (fun b hb => hb.1)) (p := ⟨gs + 1, 3, none⟩) (fun b hb => by have h1 : w6.heap.size ≤ b := hb; have := HBS.out; show b ≠ gs + 1; omega) _
                  · exact (HFz8.out.trans' HGF.out (fun i hi h => by have h1 := h.1; have := HBS.out; have := HZZ.out; omega)).setCell (p := ⟨gs + 1, 3, none⟩) (.inr (by have := HZZ.out; show w.heap.size ≤ gs + 1; omega)) _
                  · exact Nat.le_trans (Nat.le_trans HZ8.out HGF.out.size) (Nat.le_of_eq (by simp [World.setCell]))
                case measure => simp [intOf]; omega
              · obtain rfl : n6 = k := by omega
                have tk : decide ((n6 : Int) < (n6 : Int)) = false := decide_eq_false (by omega)
                have hd := HDD.out
                rw [thenR_ok (HM.out ys rfl)] at hd
                have HD9 := Lib.hid (show decR xs = goS (.ok ys) (fun e => thenR (numR e) fun nb f => if 8 < nb then .error 5 else thenR (manyR cmdR nb f) fun B g => endR (((n3 : Int), (n4 : Int)), (n5 : Int), D, B) g) from hd)
                obtain ⟨nD, hnD⟩ : ∃ x, x = D.length := ⟨_, rfl⟩
                clear hd hge hk HM HME HDD
                go_wp2_with fail
                clear tk s1
                refine (rs_numS gs (.ok ys) wp HST.out).mono ?_
                rintro r w10 ⟨rfl, hS, hF⟩
                obtain ⟨n10, hn⟩ : ∃ n, n = (numS (.ok ys)).1 := ⟨_, rfl⟩
                obtain ⟨m10, hm⟩ : ∃ m, m = (numS (.ok ys)).2 := ⟨_, rfl⟩
                have hd := HD9.out
                rw [goS_num, ← hn, ← hm] at hd
                rw [← hm] at hS
                rw [← hn]
                have HNZ := Lib.hid (show ∀ e, m10 = .error e → n10 = 0 from fun e h => by rw [hn]; exact numS_zero (by rw [← hm]; exact h))
                replace HR2 := Lib.hid (HR2.out.fr hF (fun e => by omega))
                replace HBz := Lib.hid (HBz.out.fr hF (fun e => by have := HZZ.out; omega))
                replace HFz := Lib.hid (HFz.out.trans' hF (fun i hi h => by have := HZZ.out; omega))
                replace HDr := Lib.hid (Kd.R_step HDr.out (fun b hb hl => hF.block b hl (fun e => by have h1 : w6.heap.size ≤ b := hb; have := HBS.out; omega)))
                replace HZr := Lib.hid (Nat.le_trans HZr.out hF.size)
                replace HST := Lib.hid hS
                have s1 := hS.cell1
                clear hn hm hS hF HD9 hnD
                cases m10 with
                | error e =>
                  have HE := Lib.hid (show decR xs = .error e from hd)
                  obtain rfl := HNZ.out e rfl
                  have te : (e == 0) = false := by simpa using (HST.out.err rfl).2
                  replace s1 : w10.cell? ⟨gs, 1, none⟩ = some (.int .i64 e) := s1
                  replace HST := Lib.hid (show RErr w10 gs e from HST.out)
                  clear hd HNZ HR2 HDr
                  go_wp2_with fail
                  clear s1 te
                  go_loopw [10] (fun i wt => i = .int .i64 0 ∧ RErr wt gs e ∧ Blk wt w.heap.size 32 #[.int .i64 0, .int .i64 0, .int .i64 0, .slice none 0 0, .slice none 0 0] ∧ Fr (fun _ => False) w wt) (fun _ _ => 0)
                  case atStart => exact ⟨rfl, HST.out, HBz.out, HFz.out⟩
                  case round =>
                    obtain ⟨wt, rfl⟩ : ∃ x, x = wr := ⟨_, rfl⟩
                    obtain ⟨rfl, hst, hbz, hfz⟩ := hrel
                    have s1 := hst.cell1
                    have te : (e == 0) = false := by simpa using hst.1
                    clear HST HBz HFz
                    have HST := Lib.hid hst
                    have HBz := Lib.hid hbz
                    have HFz := Lib.hid hfz
                    clear hst hbz hfz
                    go_wp2_with fail
                    clear s1 te

                    have s1 := HST.out.cell1
                    have te : (e == 0) = false := by have := HST.out.1; simpa using this
                    have te' : (e != 0) = true := by have := HST.out.1; simpa using this
                    go_wp2_with fail
                    clear s1
                    obtain ⟨St, hSt⟩ : ∃ St : World → Prop, St = fun x => x.cell? ⟨gs, 1, none⟩ = some (.int .i64 e) := ⟨_, rfl⟩
                    have l1 : ∀ x, At St x → x.cell? ⟨gs, 1, none⟩ = some (.int .i64 e) := fun x h => by have h1 := h.out; rw [hSt] at h1; exact h1
                    have hT0 : At St (wt).drew := by unfold At; rw [hSt]; exact HST.out.cell1
                    have HTM := Lib.hid (show ∀ x x', At St x → Fr (fun k => k = w.heap.size) x x' → At St x' from fun x x' h hF => by have h1 := h.out; rw [hSt] at h1; unfold At; rw [hSt]; exact hF.cell h1 (fun h2 => by have h3 : gs = w.heap.size := h2; have := HZZ.out; omega))
                    clear hSt
                    refine Code.wp_mono Calm.out ?_
                    refine rt_start [] (At St) 7 (by kernel_rfl) rfl ?_
                    have HBd := Lib.hid HBz.out.drew
                    have HFd := Lib.hid HFz.out.drew
                    clear HBz HFz HST
                    generalize (World.drew _) = Wd at HBd HFd hT0 ⊢
                    refine rt_free 0 (v := ?_) rfl (by kernel_rfl) (by kernel_rfl) (by kernel_rfl) (by kernel_rfl) (fun _ _ _ h => h) (by rfl) (fun _ => by first | assumption | exact HS0 _ rfl | exact HT.out _ (by repeat (first | exact Fr.refl _ _ | apply Fr.drew | refine Fr.alloc ?_ _))) ?_ ?_
                    rotate_left 1
                    · intro w; go_simp <;> with_reducible rfl
                    try simp only [Act.put, List.setIfInBounds_toArray, List.set_cons_zero, List.set_cons_succ]
                    refine rt_free 1 (v := ?_) rfl (by kernel_rfl) (by kernel_rfl) (by kernel_rfl) (by kernel_rfl) (fun _ _ _ h => h) (by rfl) (fun _ => by first | assumption | exact HS0 _ rfl | exact HT.out _ (by repeat (first | exact Fr.refl _ _ | apply Fr.drew | refine Fr.alloc ?_ _))) ?_ ?_
                    rotate_left 1
                    · intro w; go_simp <;> with_reducible rfl
                    try simp only [Act.put, List.setIfInBounds_toArray, List.set_cons_zero, List.set_cons_succ]
                    refine rt_free 2 (v := ?_) rfl (by kernel_rfl) (by kernel_rfl) (by kernel_rfl) (by kernel_rfl) (fun _ _ _ h => h) (by rfl) (fun _ => by first | assumption | exact HS0 _ rfl | exact HT.out _ (by repeat (first | exact Fr.refl _ _ | apply Fr.drew | refine Fr.alloc ?_ _))) ?_ ?_
                    rotate_left 1
                    · intro w; go_simp <;> with_reducible rfl
                    try simp only [Act.put, List.setIfInBounds_toArray, List.set_cons_zero, List.set_cons_succ]
                    refine rt_free 3 (v := ?_) rfl (by kernel_rfl) (by kernel_rfl) (by kernel_rfl) (by kernel_rfl) (fun _ _ _ h => h) (by rfl) (fun _ => by first | assumption | exact HS0 _ rfl | exact HT.out _ (by repeat (first | exact Fr.refl _ _ | apply Fr.drew | refine Fr.alloc ?_ _))) ?_ ?_
                    rotate_left 1
                    · intro w; go_simp <;> with_reducible rfl
                    try simp only [Act.put, List.setIfInBounds_toArray, List.set_cons_zero, List.set_cons_succ]
                    refine rt_take 4 (v := ?_) rfl (by kernel_rfl) (by kernel_rfl) (by kernel_rfl) (by kernel_rfl) (fun _ _ _ h => h) (by rfl) (by first | assumption | exact HS0 _ rfl | exact HT.out _ (by repeat (first | exact Fr.refl _ _ | apply Fr.drew | refine Fr.alloc ?_ _))) ?_ ?_
                    rotate_left 1
                    · intro w hSw; go_simp <;> with_reducible rfl
                    try simp only [Act.put, List.setIfInBounds_toArray, List.set_cons_zero, List.set_cons_succ]
                    refine rt_one 5 rfl (by kernel_rfl) (fun K hK => ?_)
                    have z0 := HBd.out.cell 0
                    have z1 := HBd.out.cell 1
                    have z2 := HBd.out.cell 2
                    have z3 := HBd.out.cell 3
                    have z4 := HBd.out.cell 4
                    have zf := HBd.out.frozen
                    simp only [List.getElem?_toArray, List.getElem?_cons_zero, List.getElem?_cons_succ] at z0 z1 z2 z3 z4
                    go_simp
                    have hT5 := HTM.out _ _ hT0 (set5_Fr (Fr.refl (fun k => k = w.heap.size) Wd) (.inl rfl) (.int .i64 0) (.int .i64 0) (.int .i64 0) (.slice none 0 0) (.slice none 0 0))
                    have HB5 := set5 HBd.out (v0 := .int .i64 0) (v1 := .int .i64 0) (v2 := .int .i64 0) (v3 := .slice none 0 0) (v4 := .slice none 0 0)
                    have HF5 := set5_Fr HFd.out (.inr (Nat.le_refl w.heap.size)) (.int .i64 0) (.int .i64 0) (.int .i64 0) (.slice none 0 0) (.slice none 0 0)
                    clear z0 z1 z2 z3 z4 zf hT0
                    generalize World.setCell _ _ _ = W5 at HB5 HF5 hT5 ⊢
                    refine hK.out (At St) _ _ (fun _ h => h) (fun _ => by (assumption)) ?_
                    clear hK K
                    try simp only [Act.put, List.setIfInBounds_toArray, List.set_cons_zero, List.set_cons_succ]
                    refine rt_free 6 (v := ?_) rfl (by kernel_rfl) (by kernel_rfl) (by kernel_rfl) (by kernel_rfl) (fun _ _ _ h => h) (by rfl) (fun _ => by first | assumption | exact HS0 _ rfl | exact HT.out _ (by repeat (first | exact Fr.refl _ _ | apply Fr.drew | refine Fr.alloc ?_ _))) ?_ ?_
                    rotate_left 1
                    · intro w; go_simp <;> with_reducible rfl
                    try simp only [Act.put, List.setIfInBounds_toArray, List.set_cons_zero, List.set_cons_succ]
                    refine rt_done (by kernel_rfl) ?_
                    all_goals refine Calm.mk ?_
                    all_goals go_wp2_with fail
                    all_goals have c0 := HB5.cell 0
                    all_goals have c1 := HB5.cell 1
                    all_goals have c2 := HB5.cell 2
                    all_goals have c3 := HB5.cell 3
                    all_goals have c4 := HB5.cell 4
                    all_goals simp only [List.getElem?_toArray, List.getElem?_cons_zero, List.getElem?_cons_succ] at c0 c1 c2 c3 c4
                    all_goals refine bodyPost_ret (v := .tuple #[zeroV, .int .i64 e]) (by simp [results, Try.results10, go_sem, c0, c1, c2, c3, c4]) rfl ?_
                    all_goals exact RefEnd.err HE.out HF5 rfl
                | ok x10 =>
                  replace s1 : w10.cell? ⟨gs, 1, none⟩ = some (.int .i64 0) := s1
                  replace hd : decR xs = if 8 < n10 then .error 5 else thenR (manyR cmdR n10 x10) fun B g => endR (((n3 : Int), (n4 : Int)), (n5 : Int), D, B) g := hd
                  clear HNZ
                  by_cases h8 : 8 < n10
                  · rw [if_pos h8] at hd
                    have HE := Lib.hid hd
                    have t8 : decide ((8 : Int) < (n10 : Int)) = true := decide_eq_true (by omega)
                    have HPO := Lib.hid (show 0 < n10 from by omega)
                    obtain ⟨A7, c7, hs7⟩ := HST.out
                    have f1 := hs7.blk.cell 1
                    have ff := hs7.blk.frozen
                    have HST' := Lib.hid (show RErr (w10.setCell ⟨gs, 1, none⟩ (.int .i64 5)) gs 5 from ⟨by decide, _, _, _, hs7.blk.set_ 1 (.int .i64 5)⟩)
                    replace HBz := Lib.hid (HBz.out.far (p := ⟨gs, 1, none⟩) (by have := HZZ.out; show w.heap.size ≠ gs; omega) (.int .i64 5))
                    replace HFz := Lib.hid (HFz.out.setCell (p := ⟨gs, 1, none⟩) (.inr (by have := HZZ.out; show w.heap.size ≤ gs; omega)) (.int .i64 5))
                    clear HST hs7 hd h8 HR2 HDr
                    have HST := HST'
                    clear HST'
                    go_wp2_with fail
                    clear s1 f1 ff t8
                    generalize w10.setCell ⟨gs, 1, none⟩ (.int .i64 5) = w7 at HST HBz HFz ⊢
                    obtain ⟨e, he⟩ : ∃ e : Int, e = 5 := ⟨_, rfl⟩
                    rw [← he] at HST HE
                    clear he
                    have hpo := HPO.out
                    go_loopw [10] (fun i wt => i = .int .i64 0 ∧ RErr wt gs e ∧ Blk wt w.heap.size 32 #[.int .i64 0, .int .i64 0, .int .i64 0, .slice none 0 0, .slice none 0 0] ∧ Fr (fun _ => False) w wt) (fun _ _ => 0)
                    case atStart => exact ⟨rfl, HST.out, HBz.out, HFz.out⟩
                    case round =>
                      obtain ⟨wt, rfl⟩ : ∃ x, x = wr := ⟨_, rfl⟩
                      obtain ⟨rfl, hst, hbz, hfz⟩ := hrel
                      have s1 := hst.cell1
                      have te : (e == 0) = false := by simpa using hst.1
                      clear HST HBz HFz
                      have HST := Lib.hid hst
                      have HBz := Lib.hid hbz
                      have HFz := Lib.hid hfz
                      clear hst hbz hfz
                      have tm : decide ((0 : Int) < (n10 : Int)) = true := decide_eq_true (by omega)
                      go_wp2_with fail
                      clear s1 te

                      have s1 := HST.out.cell1
                      have te : (e == 0) = false := by have := HST.out.1; simpa using this
                      have te' : (e != 0) = true := by have := HST.out.1; simpa using this
                      go_wp2_with fail
                      clear s1
                      obtain ⟨St, hSt⟩ : ∃ St : World → Prop, St = fun x => x.cell? ⟨gs, 1, none⟩ = some (.int .i64 e) := ⟨_, rfl⟩
                      have l1 : ∀ x, At St x → x.cell? ⟨gs, 1, none⟩ = some (.int .i64 e) := fun x h => by have h1 := h.out; rw [hSt] at h1; exact h1
                      have hT0 : At St (wt).drew := by unfold At; rw [hSt]; exact HST.out.cell1
                      have HTM := Lib.hid (show ∀ x x', At St x → Fr (fun k => k = w.heap.size) x x' → At St x' from fun x x' h hF => by have h1 := h.out; rw [hSt] at h1; unfold At; rw [hSt]; exact hF.cell h1 (fun h2 => by have h3 : gs = w.heap.size := h2; have := HZZ.out; omega))
                      clear hSt
                      refine Code.wp_mono Calm.out ?_
                      refine rt_start [] (At St) 7 (by kernel_rfl) rfl ?_
                      have HBd := Lib.hid HBz.out.drew
                      have HFd := Lib.hid HFz.out.drew
                      clear HBz HFz HST
                      generalize (World.drew _) = Wd at HBd HFd hT0 ⊢
                      refine rt_free 0 (v := ?_) rfl (by kernel_rfl) (by kernel_rfl) (by kernel_rfl) (by kernel_rfl) (fun _ _ _ h => h) (by rfl) (fun _ => by first | assumption | exact HS0 _ rfl | exact HT.out _ (by repeat (first | exact Fr.refl _ _ | apply Fr.drew | refine Fr.alloc ?_ _))) ?_ ?_
                      rotate_left 1
                      · intro w; go_simp <;> with_reducible rfl
                      try simp only [Act.put, List.setIfInBounds_toArray, List.set_cons_zero, List.set_cons_succ]
                      refine rt_free 1 (v := ?_) rfl (by kernel_rfl) (by kernel_rfl) (by kernel_rfl) (by kernel_rfl) (fun _ _ _ h => h) (by rfl) (fun _ => by first | assumption | exact HS0 _ rfl | exact HT.out _ (by repeat (first | exact Fr.refl _ _ | apply Fr.drew | refine Fr.alloc ?_ _))) ?_ ?_
                      rotate_left 1
                      · intro w; go_simp <;> with_reducible rfl
                      try simp only [Act.put, List.setIfInBounds_toArray, List.set_cons_zero, List.set_cons_succ]
                      refine rt_free 2 (v := ?_) rfl (by kernel_rfl) (by kernel_rfl) (by kernel_rfl) (by kernel_rfl) (fun _ _ _ h => h) (by rfl) (fun _ => by first | assumption | exact HS0 _ rfl | exact HT.out _ (by repeat (first | exact Fr.refl _ _ | apply Fr.drew | refine Fr.alloc ?_ _))) ?_ ?_
                      rotate_left 1
                      · intro w; go_simp <;> with_reducible rfl
                      try simp only [Act.put, List.setIfInBounds_toArray, List.set_cons_zero, List.set_cons_succ]
                      refine rt_free 3 (v := ?_) rfl (by kernel_rfl) (by kernel_rfl) (by kernel_rfl) (by kernel_rfl) (fun _ _ _ h => h) (by rfl) (fun _ => by first | assumption | exact HS0 _ rfl | exact HT.out _ (by repeat (first | exact Fr.refl _ _ | apply Fr.drew | refine Fr.alloc ?_ _))) ?_ ?_
                      rotate_left 1
                      · intro w; go_simp <;> with_reducible rfl
                      try simp only [Act.put, List.setIfInBounds_toArray, List.set_cons_zero, List.set_cons_succ]
                      refine rt_take 4 (v := ?_) rfl (by kernel_rfl) (by kernel_rfl) (by kernel_rfl) (by kernel_rfl) (fun _ _ _ h => h) (by rfl) (by first | assumption | exact HS0 _ rfl | exact HT.out _ (by repeat (first | exact Fr.refl _ _ | apply Fr.drew | refine Fr.alloc ?_ _))) ?_ ?_
                      rotate_left 1
                      · intro w hSw; go_simp <;> with_reducible rfl
                      try simp only [Act.put, List.setIfInBounds_toArray, List.set_cons_zero, List.set_cons_succ]
                      refine rt_one 5 rfl (by kernel_rfl) (fun K hK => ?_)
                      have z0 := HBd.out.cell 0
                      have z1 := HBd.out.cell 1
                      have z2 := HBd.out.cell 2
                      have z3 := HBd.out.cell 3
                      have z4 := HBd.out.cell 4
                      have zf := HBd.out.frozen
                      simp only [List.getElem?_toArray, List.getElem?_cons_zero, List.getElem?_cons_succ] at z0 z1 z2 z3 z4
                      go_simp
                      have hT5 := HTM.out _ _ hT0 (set5_Fr (Fr.refl (fun k => k = w.heap.size) Wd) (.inl rfl) (.int .i64 0) (.int .i64 0) (.int .i64 0) (.slice none 0 0) (.slice none 0 0))
                      have HB5 := set5 HBd.out (v0 := .int .i64 0) (v1 := .int .i64 0) (v2 := .int .i64 0) (v3 := .slice none 0 0) (v4 := .slice none 0 0)
                      have HF5 := set5_Fr HFd.out (.inr (Nat.le_refl w.heap.size)) (.int .i64 0) (.int .i64 0) (.int .i64 0) (.slice none 0 0) (.slice none 0 0)
                      clear z0 z1 z2 z3 z4 zf hT0
                      generalize World.setCell _ _ _ = W5 at HB5 HF5 hT5 ⊢
                      refine hK.out (At St) _ _ (fun _ h => h) (fun _ => by (assumption)) ?_
                      clear hK K
                      try simp only [Act.put, List.setIfInBounds_toArray, List.set_cons_zero, List.set_cons_succ]
                      refine rt_free 6 (v := ?_) rfl (by kernel_rfl) (by kernel_rfl) (by kernel_rfl) (by kernel_rfl) (fun _ _ _ h => h) (by rfl) (fun _ => by first | assumption | exact HS0 _ rfl | exact HT.out _ (by repeat (first | exact Fr.refl _ _ | apply Fr.drew | refine Fr.alloc ?_ _))) ?_ ?_
                      rotate_left 1
                      · intro w; go_simp <;> with_reducible rfl
                      try simp only [Act.put, List.setIfInBounds_toArray, List.set_cons_zero, List.set_cons_succ]
                      refine rt_done (by kernel_rfl) ?_
                      all_goals refine Calm.mk ?_
                      all_goals go_wp2_with fail
                      all_goals have c0 := HB5.cell 0
                      all_goals have c1 := HB5.cell 1
                      all_goals have c2 := HB5.cell 2
                      all_goals have c3 := HB5.cell 3
                      all_goals have c4 := HB5.cell 4
                      all_goals simp only [List.getElem?_toArray, List.getElem?_cons_zero, List.getElem?_cons_succ] at c0 c1 c2 c3 c4
                      all_goals refine bodyPost_ret (v := .tuple #[zeroV, .int .i64 e]) (by simp [results, Try.results10, go_sem, c0, c1, c2, c3, c4]) rfl ?_
                      all_goals exact RefEnd.err HE.out HF5 rfl
                  · rw [if_neg h8] at hd
                    have HDD2 := Lib.hid hd
                    have HND2 := Lib.hid (show n10 ≤ 8 from by omega)
                    have t8 : decide ((8 : Int) < (n10 : Int)) = false := decide_eq_false (by omega)
                    have HB10 := Lib.hid (show gs + 1 < w10.heap.size ∧ w6.heap.size ≤ w10.heap.size from ⟨HR2.out.lt, HZr.out⟩)
                    have HDb := Lib.hid (Kd.R_mono (Kd.R_bound HDr.out) (ok' := fun b => w6.heap.size ≤ b ∧ b < w10.heap.size) (fun b hb => ⟨hb.1, hb.2.2.1⟩))
                    have HBY := Lib.hid (show Byt x10 from by obtain ⟨A7, c7, hs7⟩ := HST.out; exact hs7.byt)
                    clear hd h8 HDr
                    go_wp2_with fail
                    clear s1 t8
                    go_loopw [10] (fun i wr => ∃ (k : Nat) (B : List Cmd) (m : Left) (Ab : Option Addr) (cb : Nat), k ≤ n10 ∧ i = .int .i64 k ∧ B.length = k ∧ (∀ x ∈ B, x.2.2 < 18446744073709551616) ∧ (∀ zs, m = .ok zs → manyR cmdR k x10 = .ok (B.map canonCmd, zs) ∧ ∀ x ∈ B, TwinC x) ∧ (∀ e, m = .error e → manyR cmdR n10 x10 = .error e) ∧ RSt wr gs m ∧ Blk wr (gs + 1) 32 #[.int .i64 (n3 : Int), .int .i64 (n4 : Int), .int .i64 (n5 : Int), .slice Ad D.length cd, .slice Ab B.length cb] ∧ Blk wr w.heap.size 32 #[.int .i64 0, .int .i64 0, .int .i64 0, .slice none 0 0, .slice none 0 0] ∧ idK.R 28 wr w6.heap.size (fun b => w6.heap.size ≤ b ∧ b < w10.heap.size) (.slice Ad D.length cd) D ∧ cmdK.R 58 wr w10.heap.size (fun b => w10.heap.size ≤ b) (.slice Ab B.length cb) B ∧ Fr (fun _ => False) w wr ∧ w10.heap.size ≤ wr.heap.size) (fun i _ => n10 - (intOf i).toNat)
                    case atStart => exact ⟨0, [], .ok x10, none, 0, Nat.zero_le _, rfl, rfl, fun x h => (by cases h), fun ys h => (by injection h with h; rw [h]; exact ⟨rfl, fun x h => (by cases h)⟩), fun e h => (by cases h), HST.out, HR2.out, HBz.out, HDb.out, Kd.R_nil _ _ _ _ _, HFz.out, Nat.le_refl _⟩
                    case round =>
                      obtain ⟨wq, rfl⟩ : ∃ x, x = wr := ⟨_, rfl⟩
                      obtain ⟨k, B, m, Ab, cb, hk, rfl, hBl, hV, hM, hME, hS, hR, hB, hD, hBr, hF, hZ⟩ := hrel
                      clear HST HR2 HBz HFz HDb
                      have HST := Lib.hid hS
                      have HR2 := Lib.hid hR
                      have HBz := Lib.hid hB
                      have HDq := Lib.hid hD
                      have HBq := Lib.hid hBr
                      have HFz := Lib.hid hF
                      have HZq := Lib.hid hZ
                      have HM := Lib.hid hM
                      have HME := Lib.hid hME
                      have HBL := Lib.hid hBl
                      have HVV := Lib.hid hV
                      have s1 := hS.cell1
                      clear hS hR hB hD hF hZ hM hME hBl hBr hV
                      cases m with
                      | error e =>
                        have HE := Lib.hid (show decR xs = .error e from by rw [HDD2.out, HME.out e rfl]; rfl)
                        have te : (e == 0) = false := by simpa using (HST.out.err rfl).2
                        replace s1 : wq.cell? ⟨gs, 1, none⟩ = some (.int .i64 e) := s1
                        replace HST := Lib.hid (show RErr wq gs e from HST.out)
                        clear HM HME HDq HBq HR2
                        rcases Nat.lt_or_ge k n10 with hlt | hge
                        · have tk : decide ((k : Int) < (n10 : Int)) = true := decide_eq_true (by omega)
                          clear s1 te
                          have s1 := HST.out.cell1
                          have te : (e == 0) = false := by have := HST.out.1; simpa using this
                          have te' : (e != 0) = true := by have := HST.out.1; simpa using this
                          go_wp2_with fail
                          clear s1
                          obtain ⟨St, hSt⟩ : ∃ St : World → Prop, St = fun x => x.cell? ⟨gs, 1, none⟩ = some (.int .i64 e) := ⟨_, rfl⟩
                          have l1 : ∀ x, At St x → x.cell? ⟨gs, 1, none⟩ = some (.int .i64 e) := fun x h => by have h1 := h.out; rw [hSt] at h1; exact h1
                          have hT0 : At St (wq).drew := by unfold At; rw [hSt]; exact HST.out.cell1
                          have HTM := Lib.hid (show ∀ x x', At St x → Fr (fun k => k = w.heap.size) x x' → At St x' from fun x x' h hF => by have h1 := h.out; rw [hSt] at h1; unfold At; rw [hSt]; exact hF.cell h1 (fun h2 => by have h3 : gs = w.heap.size := h2; have := HZZ.out; omega))
                          clear hSt
                          refine Code.wp_mono Calm.out ?_
                          refine rt_start [] (At St) 7 (by kernel_rfl) rfl ?_
                          have HBd := Lib.hid HBz.out.drew
                          have HFd := Lib.hid HFz.out.drew
                          clear HBz HFz HST
                          generalize (World.drew _) = Wd at HBd HFd hT0 ⊢
                          refine rt_free 0 (v := ?_) rfl (by kernel_rfl) (by kernel_rfl) (by kernel_rfl) (by kernel_rfl) (fun _ _ _ h => h) (by rfl) (fun _ => by first | assumption | exact HS0 _ rfl | exact HT.out _ (by repeat (first | exact Fr.refl _ _ | apply Fr.drew | refine Fr.alloc ?_ _))) ?_ ?_
                          rotate_left 1
                          · intro w; go_simp <;> with_reducible rfl
                          try simp only [Act.put, List.setIfInBounds_toArray, List.set_cons_zero, List.set_cons_succ]
                          refine rt_free 1 (v := ?_) rfl (by kernel_rfl) (by kernel_rfl) (by kernel_rfl) (by kernel_rfl) (fun _ _ _ h => h) (by rfl) (fun _ => by first | assumption | exact HS0 _ rfl | exact HT.out _ (by repeat (first | exact Fr.refl _ _ | apply Fr.drew | refine Fr.alloc ?_ _))) ?_ ?_
                          rotate_left 1
                          · intro w; go_simp <;> with_reducible rfl
                          try simp only [Act.put, List.setIfInBounds_toArray, List.set_cons_zero, List.set_cons_succ]
                          refine rt_free 2 (v := ?_) rfl (by kernel_rfl) (by kernel_rfl) (by kernel_rfl) (by kernel_rfl) (fun _ _ _ h => h) (by rfl) (fun _ => by first | assumption | exact HS0 _ rfl | exact HT.out _ (by repeat (first | exact Fr.refl _ _ | apply Fr.drew | refine Fr.alloc ?_ _))) ?_ ?_
                          rotate_left 1
                          · intro w; go_simp <;> with_reducible rfl
                          try simp only [Act.put, List.setIfInBounds_toArray, List.set_cons_zero, List.set_cons_succ]
                          refine rt_free 3 (v := ?_) rfl (by kernel_rfl) (by kernel_rfl) (by kernel_rfl) (by kernel_rfl) (fun _ _ _ h => h) (by rfl) (fun _ => by first | assumption | exact HS0 _ rfl | exact HT.out _ (by repeat (first | exact Fr.refl _ _ | apply Fr.drew | refine Fr.alloc ?_ _))) ?_ ?_
                          rotate_left 1
                          · intro w; go_simp <;> with_reducible rfl
                          try simp only [Act.put, List.setIfInBounds_toArray, List.set_cons_zero, List.set_cons_succ]
                          refine rt_take 4 (v := ?_) rfl (by kernel_rfl) (by kernel_rfl) (by kernel_rfl) (by kernel_rfl) (fun _ _ _ h => h) (by rfl) (by first | assumption | exact HS0 _ rfl | exact HT.out _ (by repeat (first | exact Fr.refl _ _ | apply Fr.drew | refine Fr.alloc ?_ _))) ?_ ?_
                          rotate_left 1
                          · intro w hSw; go_simp <;> with_reducible rfl
                          try simp only [Act.put, List.setIfInBounds_toArray, List.set_cons_zero, List.set_cons_succ]
                          refine rt_one 5 rfl (by kernel_rfl) (fun K hK => ?_)
                          have z0 := HBd.out.cell 0
                          have z1 := HBd.out.cell 1
                          have z2 := HBd.out.cell 2
                          have z3 := HBd.out.cell 3
                          have z4 := HBd.out.cell 4
                          have zf := HBd.out.frozen
                          simp only [List.getElem?_toArray, List.getElem?_cons_zero, List.getElem?_cons_succ] at z0 z1 z2 z3 z4
                          go_simp
                          have hT5 := HTM.out _ _ hT0 (set5_Fr (Fr.refl (fun k => k = w.heap.size) Wd) (.inl rfl) (.int .i64 0) (.int .i64 0) (.int .i64 0) (.slice none 0 0) (.slice none 0 0))
                          have HB5 := set5 HBd.out (v0 := .int .i64 0) (v1 := .int .i64 0) (v2 := .int .i64 0) (v3 := .slice none 0 0) (v4 := .slice none 0 0)
                          have HF5 := set5_Fr HFd.out (.inr (Nat.le_refl w.heap.size)) (.int .i64 0) (.int .i64 0) (.int .i64 0) (.slice none 0 0) (.slice none 0 0)
                          clear z0 z1 z2 z3 z4 zf hT0
                          generalize World.setCell _ _ _ = W5 at HB5 HF5 hT5 ⊢
                          refine hK.out (At St) _ _ (fun _ h => h) (fun _ => by (assumption)) ?_
                          clear hK K
                          try simp only [Act.put, List.setIfInBounds_toArray, List.set_cons_zero, List.set_cons_succ]
                          refine rt_free 6 (v := ?_) rfl (by kernel_rfl) (by kernel_rfl) (by kernel_rfl) (by kernel_rfl) (fun _ _ _ h => h) (by rfl) (fun _ => by first | assumption | exact HS0 _ rfl | exact HT.out _ (by repeat (first | exact Fr.refl _ _ | apply Fr.drew | refine Fr.alloc ?_ _))) ?_ ?_
                          rotate_left 1
                          · intro w; go_simp <;> with_reducible rfl
                          try simp only [Act.put, List.setIfInBounds_toArray, List.set_cons_zero, List.set_cons_succ]
                          refine rt_done (by kernel_rfl) ?_
                          all_goals refine Calm.mk ?_
                          all_goals go_wp2_with fail
                          all_goals have c0 := HB5.cell 0
                          all_goals have c1 := HB5.cell 1
                          all_goals have c2 := HB5.cell 2
                          all_goals have c3 := HB5.cell 3
                          all_goals have c4 := HB5.cell 4
                          all_goals simp only [List.getElem?_toArray, List.getElem?_cons_zero, List.getElem?_cons_succ] at c0 c1 c2 c3 c4
                          all_goals refine bodyPost_ret (v := .tuple #[zeroV, .int .i64 e]) (by simp [results, Try.results10, go_sem, c0, c1, c2, c3, c4]) rfl ?_
                          all_goals exact RefEnd.err HE.out HF5 rfl
                        · have tk : decide ((k : Int) < (n10 : Int)) = false := decide_eq_false (by omega)
                          clear s1 te
                          have s1 := HST.out.cell1
                          have te : (e == 0) = false := by have := HST.out.1; simpa using this
                          have te' : (e != 0) = true := by have := HST.out.1; simpa using this
                          go_wp2_with fail
                          clear s1
                          obtain ⟨St, hSt⟩ : ∃ St : World → Prop, St = fun x => x.cell? ⟨gs, 1, none⟩ = some (.int .i64 e) := ⟨_, rfl⟩
                          have l1 : ∀ x, At St x → x.cell? ⟨gs, 1, none⟩ = some (.int .i64 e) := fun x h => by have h1 := h.out; rw [hSt] at h1; exact h1
                          have hT0 : At St (wq).drew := by unfold At; rw [hSt]; exact HST.out.cell1
                          have HTM := Lib.hid (show ∀ x x', At St x → Fr (fun k => k = w.heap.size) x x' → At St x' from fun x x' h hF => by have h1 := h.out; rw [hSt] at h1; unfold At; rw [hSt]; exact hF.cell h1 (fun h2 => by have h3 : gs = w.heap.size := h2; have := HZZ.out; omega))
                          clear hSt
                          refine Code.wp_mono Calm.out ?_
                          refine rt_start [] (At St) 7 (by kernel_rfl) rfl ?_
                          have HBd := Lib.hid HBz.out.drew
                          have HFd := Lib.hid HFz.out.drew
                          clear HBz HFz HST
                          generalize (World.drew _) = Wd at HBd HFd hT0 ⊢
                          refine rt_free 0 (v := ?_) rfl (by kernel_rfl) (by kernel_rfl) (by kernel_rfl) (by kernel_rfl) (fun _ _ _ h => h) (by rfl) (fun _ => by first | assumption | exact HS0 _ rfl | exact HT.out _ (by repeat (first | exact Fr.refl _ _ | apply Fr.drew | refine Fr.alloc ?_ _))) ?_ ?_
                          rotate_left 1
                          · intro w; go_simp <;> with_reducible rfl
                          try simp only [Act.put, List.setIfInBounds_toArray, List.set_cons_zero, List.set_cons_succ]
                          refine rt_free 1 (v := ?_) rfl (by kernel_rfl) (by kernel_rfl) (by kernel_rfl) (by kernel_rfl) (fun _ _ _ h => h) (by rfl) (fun _ => by first | assumption | exact HS0 _ rfl | exact HT.out _ (by repeat (first | exact Fr.refl _ _ | apply Fr.drew | refine Fr.alloc ?_ _))) ?_ ?_
                          rotate_left 1
                          · intro w; go_simp <;> with_reducible rfl
                          try simp only [Act.put, List.setIfInBounds_toArray, List.set_cons_zero, List.set_cons_succ]
                          refine rt_free 2 (v := ?_) rfl (by kernel_rfl) (by kernel_rfl) (by kernel_rfl) (by kernel_rfl) (fun _ _ _ h => h) (by rfl) (fun _ => by first | assumption | exact HS0 _ rfl | exact HT.out _ (by repeat (first | exact Fr.refl _ _ | apply Fr.drew | refine Fr.alloc ?_ _))) ?_ ?_
                          rotate_left 1
                          · intro w; go_simp <;> with_reducible rfl
                          try simp only [Act.put, List.setIfInBounds_toArray, List.set_cons_zero, List.set_cons_succ]
                          refine rt_free 3 (v := ?_) rfl (by kernel_rfl) (by kernel_rfl) (by kernel_rfl) (by kernel_rfl) (fun _ _ _ h => h) (by rfl) (fun _ => by first | assumption | exact HS0 _ rfl | exact HT.out _ (by repeat (first | exact Fr.refl _ _ | apply Fr.drew | refine Fr.alloc ?_ _))) ?_ ?_
                          rotate_left 1
                          · intro w; go_simp <;> with_reducible rfl
                          try simp only [Act.put, List.setIfInBounds_toArray, List.set_cons_zero, List.set_cons_succ]
                          refine rt_take 4 (v := ?_) rfl (by kernel_rfl) (by kernel_rfl) (by kernel_rfl) (by kernel_rfl) (fun _ _ _ h => h) (by rfl) (by first | assumption | exact HS0 _ rfl | exact HT.out _ (by repeat (first | exact Fr.refl _ _ | apply Fr.drew | refine Fr.alloc ?_ _))) ?_ ?_
                          rotate_left 1
                          · intro w hSw; go_simp <;> with_reducible rfl
                          try simp only [Act.put, List.setIfInBounds_toArray, List.set_cons_zero, List.set_cons_succ]
                          refine rt_one 5 rfl (by kernel_rfl) (fun K hK => ?_)
                          have z0 := HBd.out.cell 0
                          have z1 := HBd.out.cell 1
                          have z2 := HBd.out.cell 2
                          have z3 := HBd.out.cell 3
                          have z4 := HBd.out.cell 4
                          have zf := HBd.out.frozen
                          simp only [List.getElem?_toArray, List.getElem?_cons_zero, List.getElem?_cons_succ] at z0 z1 z2 z3 z4
                          go_simp
                          have hT5 := HTM.out _ _ hT0 (set5_Fr (Fr.refl (fun k => k = w.heap.size) Wd) (.inl rfl) (.int .i64 0) (.int .i64 0) (.int .i64 0) (.slice none 0 0) (.slice none 0 0))
                          have HB5 := set5 HBd.out (v0 := .int .i64 0) (v1 := .int .i64 0) (v2 := .int .i64 0) (v3 := .slice none 0 0) (v4 := .slice none 0 0)
                          have HF5 := set5_Fr HFd.out (.inr (Nat.le_refl w.heap.size)) (.int .i64 0) (.int .i64 0) (.int .i64 0) (.slice none 0 0) (.slice none 0 0)
                          clear z0 z1 z2 z3 z4 zf hT0
                          generalize World.setCell _ _ _ = W5 at HB5 HF5 hT5 ⊢
                          refine hK.out (At St) _ _ (fun _ h => h) (fun _ => by (assumption)) ?_
                          clear hK K
                          try simp only [Act.put, List.setIfInBounds_toArray, List.set_cons_zero, List.set_cons_succ]
                          refine rt_free 6 (v := ?_) rfl (by kernel_rfl) (by kernel_rfl) (by kernel_rfl) (by kernel_rfl) (fun _ _ _ h => h) (by rfl) (fun _ => by first | assumption | exact HS0 _ rfl | exact HT.out _ (by repeat (first | exact Fr.refl _ _ | apply Fr.drew | refine Fr.alloc ?_ _))) ?_ ?_
                          rotate_left 1
                          · intro w; go_simp <;> with_reducible rfl
                          try simp only [Act.put, List.setIfInBounds_toArray, List.set_cons_zero, List.set_cons_succ]
                          refine rt_done (by kernel_rfl) ?_
                          all_goals refine Calm.mk ?_
                          all_goals go_wp2_with fail
                          all_goals have c0 := HB5.cell 0
                          all_goals have c1 := HB5.cell 1
                          all_goals have c2 := HB5.cell 2
                          all_goals have c3 := HB5.cell 3
                          all_goals have c4 := HB5.cell 4
                          all_goals simp only [List.getElem?_toArray, List.getElem?_cons_zero, List.getElem?_cons_succ] at c0 c1 c2 c3 c4
                          all_goals refine bodyPost_ret (v := .tuple #[zeroV, .int .i64 e]) (by simp [results, Try.results10, go_sem, c0, c1, c2, c3, c4]) rfl ?_
                          all_goals exact RefEnd.err HE.out HF5 rfl
                      | ok zs =>
                        replace s1 : wq.cell? ⟨gs, 1, none⟩ = some (.int .i64 0) := s1
                        rcases Nat.lt_or_ge k n10 with hlt | hge
                        · have tk : decide ((k : Int) < (n10 : Int)) = true := decide_eq_true (by omega)
                          have k100 : k < 100 := by have := HND2.out; omega
                          obtain ⟨Aj, cj, hsrc⟩ := HST.out
                          have HSR := Lib.hid hsrc
                          obtain ⟨St, hSt⟩ : ∃ St : World → Prop, St = fun x => x.cell? ⟨gs + 1, 4, none⟩ = some (.slice Ab B.length cb) := ⟨_, rfl⟩
                          have y4 : ∀ x, At St x → x.cell? ⟨gs + 1, 4, none⟩ = some (.slice Ab B.length cb) := fun x h => by have h1 := h.out; rw [hSt] at h1; exact h1
                          have HMK := Lib.hid (show ∀ x, Blk x (gs + 1) 32 #[.int .i64 (n3 : Int), .int .i64 (n4 : Int), .int .i64 (n5 : Int), .slice Ad D.length cd, .slice Ab B.length cb] → At St x from fun x h => by unfold At; rw [hSt]; exact h.cell 4)
                          have hT0 : At St wq.drew := HMK.out _ (HR2.out.fr (Fr.refl (fun _ => False) wq).drew (fun h => h))
                          clear hSt hsrc HST
                          go_wp2_with fail
                          clear s1 tk
                          refine rt_start [7] (At St) 8 (by kernel_rfl) rfl ?_
                          refine rt_free 0 (v := ?_) rfl (by kernel_rfl) (by kernel_rfl) (by kernel_rfl) (by kernel_rfl) (fun _ _ _ h => h) (by rfl) (fun _ => by first | assumption | exact HS0 _ rfl | exact HT.out _ (by repeat (first | exact Fr.refl _ _ | apply Fr.drew | refine Fr.alloc ?_ _))) ?_ ?_
                          rotate_left 1
                          · intro w; go_simp <;> with_reducible rfl
                          try simp only [Act.put, List.setIfInBounds_toArray, List.set_cons_zero, List.set_cons_succ]
                          refine rt_take 1 (v := ?_) rfl (by kernel_rfl) (by kernel_rfl) (by kernel_rfl) (by kernel_rfl) (fun _ _ _ h => h) (by rfl) (by first | assumption | exact HS0 _ rfl | exact HT.out _ (by repeat (first | exact Fr.refl _ _ | apply Fr.drew | refine Fr.alloc ?_ _))) ?_ ?_
                          rotate_left 1
                          · intro w hSw; go_simp <;> with_reducible rfl
                          try simp only [Act.put, List.setIfInBounds_toArray, List.set_cons_zero, List.set_cons_succ]
                          refine rt_free 2 (v := ?_) rfl (by kernel_rfl) (by kernel_rfl) (by kernel_rfl) (by kernel_rfl) (fun _ _ _ h => h) (by rfl) (fun _ => by first | assumption | exact HS0 _ rfl | exact HT.out _ (by repeat (first | exact Fr.refl _ _ | apply Fr.drew | refine Fr.alloc ?_ _))) ?_ ?_
                          rotate_left 1
                          · intro w; go_simp <;> with_reducible rfl
                          try simp only [Act.put, List.setIfInBounds_toArray, List.set_cons_zero, List.set_cons_succ]
                          refine rt_one 3 rfl (by kernel_rfl) (fun K hK => ?_)
                          go_simp
                          refine (rs_cmd gs Aj zs cj _ (HSR.out.fr (Fr.refl _ _).drew)).mono ?_
                          rintro r W4 hCE
                          obtain ⟨hF4, x, m4, rfl, hxv, hS4, hX4, hE4⟩ := hCE.st
                          have hF4 := (Fr.refl (fun k => k = gs) wq).drew.trans hF4
                          have HX4 := Lib.hid hX4
                          have HE4 := Lib.hid hE4
                          have HXV := Lib.hid hxv
                          have HR4 := Lib.hid (HR2.out.fr hF4 (fun e => by omega))
                          have HBz4 := Lib.hid (HBz.out.fr hF4 (fun e => by have := HZZ.out; omega))
                          have HD4 := Lib.hid (Kd.R_step HDq.out (fun b hb hl => hF4.block b hl (fun e => by have h1 := hb.1; have := HBS.out; omega)))
                          have HB4 := Lib.hid (Kd.R_step HBq.out (fun b hb hl => hF4.block b hl (fun e => by have h1 : w10.heap.size ≤ b := hb; have := HB10.out; omega)))
                          have HF4 := Lib.hid (HFz.out.trans' hF4 (fun i hi h => by have := HZZ.out; omega))
                          have HS4 := Lib.hid hS4
                          have HZ4 := Lib.hid (Nat.le_trans HZq.out hF4.size)
                          have hT4 := HMK.out _ HR4.out
                          clear hF4 hS4 hCE hX4 hE4 hxv HSR HR2 HBz HDq HBq HFz HZq hT0
                          refine hK.out (At St) _ _ (fun _ h => h) (fun _ => by (assumption)) ?_
                          clear hK K
                          try simp only [Act.put, List.setIfInBounds_toArray, List.set_cons_zero, List.set_cons_succ]
                          refine rt_one 4 rfl (by kernel_rfl) (fun K hK => ?_)
                          go_simp
                          have hA4 := (Fr.refl (fun _ => False) W4).alloc (.cells #[.int .i64 x.1, .string x.2.1, .float .f64 x.2.2] 58)
                          have HC5 := Lib.hid (cmdFlat.blk_C (L := [x]) (Blk.new W4 58 #[.int .i64 x.1, .string x.2.1, .float .f64 x.2.2]) (by simp))
                          have HR5 := Lib.hid (HR4.out.fr hA4 (fun h => h))
                          have HBz5 := Lib.hid (HBz4.out.fr hA4 (fun h => h))
                          have HD5 := Lib.hid (Kd.R_alloc HD4.out (.cells #[.int .i64 x.1, .string x.2.1, .float .f64 x.2.2] 58))
                          have HB5 := Lib.hid (Kd.R_alloc HB4.out (.cells #[.int .i64 x.1, .string x.2.1, .float .f64 x.2.2] 58))
                          have HF5 := Lib.hid (HF4.out.trans hA4)
                          have HS5 := Lib.hid (HS4.out.fr (hA4.mono (fun _ _ h => h.elim)))
                          have HZ5 := Lib.hid (Nat.le_trans HZ4.out hA4.size)
                          have hT5 := HMK.out _ HR5.out
                          clear hA4 hT4 HR4 HBz4 HD4 HB4 HF4 HS4 HZ4
                          generalize W4.heap.size = gx at HC5 ⊢
                          generalize World.alloc _ _ = W5 at HC5 HR5 HBz5 HD5 HB5 HF5 HS5 HZ5 hT5 ⊢
                          refine hK.out (At St) _ _ (fun _ h => h) (fun _ => by (assumption)) ?_
                          clear hK K
                          try simp only [Act.put, List.setIfInBounds_toArray, List.set_cons_zero, List.set_cons_succ]
                          refine rt_one 5 rfl (by kernel_rfl) (fun K hK => ?_)
                          obtain ⟨v6, W6, hr, hB6, hg6⟩ := app_cmd x HB5.out HC5.out (fun b hb => Nat.le_trans HZ5.out hb) HZ5.out (by have := HBL.out; omega)
                          refine step_builtin2 rfl rfl rfl rfl (bi_append hr) ?_
                          obtain ⟨A6, c6', rfl⟩ := Kd.R_slice hB6
                          have hF6 : Fr (fun b => w10.heap.size ≤ b) W5 W6 := (Fr.of_grown hg6).mono (fun i hi h => Kd.R_base HB5.out i h.symm)
                          have hX6 := HR5.out.fr hF6 (fun h => by have h1 : w10.heap.size ≤ gs + 1 := h; have := HB10.out; omega)
                          have HR6 := Lib.hid hX6
                          have HBz6 := Lib.hid (HBz5.out.fr hF6 (fun h => by have h1 : w10.heap.size ≤ w.heap.size := h; have := HB10.out; have := HZZ.out; omega))
                          have HD6 := Lib.hid (Kd.R_step HD5.out (fun b hb hl => hF6.block b hl (fun e => by have h1 := hb.2; have h2 : w10.heap.size ≤ b := e; omega)))
                          have HB6 := Lib.hid hB6
                          have HF6 := Lib.hid (HF5.out.trans' hF6 (fun i hi h => by have h1 : w10.heap.size ≤ i := h; have := HB10.out; have := HZZ.out; omega))
                          have HS6 := Lib.hid (HS5.out.fr (hF6.mono (fun i hi h => by have h1 : w10.heap.size ≤ i := h; have := HB10.out; show gs < i; omega)))
                          have HZ6 := Lib.hid (Nat.le_trans HZ5.out hF6.size)
                          have hT6 := HMK.out _ hX6
                          clear hr hg6 hF6 hX6 hB6 HR5 HBz5 HD5 HB5 HF5 HS5 HZ5 HC5 hT5
                          refine hK.out (At St) _ _ (fun _ h => h) (fun _ => by (assumption)) ?_
                          clear hK K
                          try simp only [Act.put, List.setIfInBounds_toArray, List.set_cons_zero, List.set_cons_succ]
                          refine rt_free 6 (v := ?_) rfl (by kernel_rfl) (by kernel_rfl) (by kernel_rfl) (by kernel_rfl) (fun _ _ _ h => h) (by rfl) (fun _ => by first | assumption | exact HS0 _ rfl | exact HT.out _ (by repeat (first | exact Fr.refl _ _ | apply Fr.drew | refine Fr.alloc ?_ _))) ?_ ?_
                          rotate_left 1
                          · intro w; go_simp <;> with_reducible rfl
                          try simp only [Act.put, List.setIfInBounds_toArray, List.set_cons_zero, List.set_cons_succ]
                          refine rt_one 7 rfl (by kernel_rfl) (fun K hK => ?_)
                          have kf := HR6.out.frozen
                          have k4 := HR6.out.cell 4
                          simp only [List.getElem?_toArray, List.getElem?_cons_zero, List.getElem?_cons_succ] at k4
                          go_simp
                          refine hK.out (At St) _ _ (fun _ h => h) (late_abs (by kernel_rfl)) ?_
                          clear hK K
                          try simp only [Act.put, List.setIfInBounds_toArray, List.set_cons_zero, List.set_cons_succ]
                          refine rt_done (by kernel_rfl) ?_
                          have HNL := Lib.hid (show (B ++ [x]).length = k + 1 from by rw [List.length_append, HBL.out]; rfl)
                          go_wp2_with fail
                          go_roundw
                          case rel =>
                            refine ⟨k + 1, B ++ [x], m4, A6, c6', by omega, by go_num, HNL.out, fun y hy => ?_, fun us h => ⟨?_, fun y hy => ?_⟩, fun e h => manyR_err (HM.out zs rfl).1 (HE4.out e h) n10 hlt, ?_, ?_, ?_, ?_, ?_, ?_, ?_⟩
                            · rcases List.mem_append.1 hy with h | h
                              · exact HVV.out y h
                              · rw [List.mem_singleton.1 h]; exact HXV.out
                            · rw [List.map_append]
                              exact manyR_step (HM.out zs rfl).1 (HX4.out us h).1
                            · rcases List.mem_append.1 hy with h' | h'
                              · exact (HM.out zs rfl).2 y h'
                              · rw [List.mem_singleton.1 h']; exact (HX4.out us h).2
                            · exact HS6.out.fr ((Fr.refl (fun k => gs < k) W6).setCell (p := ⟨gs + 1, 4, none⟩) (.inl (Nat.lt_succ_self _)) _)
                            · rw [show (B ++ [x]).length = B.length + 1 from by simp]
                              exact HR6.out.set_ 4 _
                            · exact HBz6.out.far (p := ⟨gs + 1, 4, none⟩) (by have := HZZ.out; show w.heap.size ≠ gs + 1; omega) _
                            · exact Kd.R_far HD6.out (p := ⟨gs + 1, 4, none⟩) (fun b hb => by have h1 := hb.1; have := HBS.out; show b ≠ gs + 1; omega) _
                            · exact Kd.R_far HB6.out (p := ⟨gs + 1, 4, none⟩) (fun b hb => by have h1 : w10.heap.size ≤ b := hb; have := HB10.out; show b ≠ gs + 1; omega) _
                            · exact HF6.out.setCell (p := ⟨gs + 1, 4, none⟩) (.inr (by have := HZZ.out; show w.heap.size ≤ gs + 1; omega)) _
                            · exact Nat.le_trans HZ6.out (Nat.le_of_eq (by simp [World.setCell]))
                          case measure => simp [intOf]; omega
                        · obtain rfl : n10 = k := by omega
                          have tk : decide ((n10 : Int) < (n10 : Int)) = false := decide_eq_false (by omega)
                          obtain ⟨hmy, htw⟩ := HM.out zs rfl
                          have hd := HDD2.out
                          rw [thenR_ok hmy] at hd
                          have HEND := Lib.hid hd
                          have HTW := Lib.hid htw
                          have HGD := Lib.hid (show RecGood (((n3 : Int), (n4 : Int)), (n5 : Int), D, B) from fun x hx => by
                            have h := (manyR_inv (enc := encCmd) (W := fun c : Cmd => canonCmd c = c ∧ c.2.1.size ≤ 12 ∧ c.2.2 < 18446744073709551616) (fun ys a zs hy h => cmdR_inv hy h) _ _ _ _ HBY.out hmy).2.2 (canonCmd x) (List.mem_map.2 ⟨x, hx, rfl⟩)
                            exact ⟨Nat.le_trans h.2.1 (by decide), HVV.out x hx⟩)
                          clear hd hmy htw hge hk HM HME HDD2
                          skip
                          obtain ⟨Aj, cj, hsrc⟩ := HST.out
                          have b0 := hsrc.blk.cell 0
                          have bf := hsrc.blk.frozen
                          have b1 := hsrc.blk.cell 1
                          have r0 := HR2.out.cell 0
                          have r1 := HR2.out.cell 1
                          have r2 := HR2.out.cell 2
                          have r3 := HR2.out.cell 3
                          have r4 := HR2.out.cell 4
                          simp only [List.getElem?_toArray, List.getElem?_cons_zero, List.getElem?_cons_succ] at b0 b1 r0 r1 r2 r3 r4
                          have HSR := Lib.hid hsrc.blk
                          obtain ⟨nz, hnz⟩ : ∃ nz, nz = zs.length := ⟨_, rfl⟩
                          rw [← hnz] at b0
                          have HNZ := Lib.hid hnz
                          clear hsrc s1 HST hnz
                          rcases Nat.eq_zero_or_pos nz with hz | hz
                          · subst hz
                            have hzs : zs = [] := List.length_eq_zero_iff.1 HNZ.out.symm
                            obtain ⟨R', hR'⟩ : ∃ R' : Rec, R' = (((n3 : Int), (n4 : Int)), (n5 : Int), D, B) := ⟨_, rfl⟩
                            have HEE := Lib.hid (show decR xs = if errRec R' = 0 then .ok (canonRec R') else .error (errRec R') from by
                              have h1 : errRec R' = errRec (canonRec R') := errRec_twin (by rw [hR']; exact HTW.out)
                              rw [HEND.out, h1, hR']
                              unfold endR
                              rw [if_pos hzs]
                              rfl)
                            have HRA := Lib.hid (show RecAt wq (((n3 : Int), (n4 : Int)), (n5 : Int), D, B) Ad Ab cd cb from ⟨(Kd.R_reads' HDq.out).2.1, (Kd.R_reads' HBq.out).2.1, (Kd.R_reads' HDq.out).2.2, (Kd.R_reads' HBq.out).2.2⟩)
                            have HRR := Lib.hid hR'
                            clear hR' hzs HEND
                            go_wp2_with fail
                            refine (ref_check (((n3 : Int), (n4 : Int)), (n5 : Int), D, B) Ad Ab cd cb _ HRA.out HGD.out).mono ?_
                            rintro r wz ⟨rfl, hFz⟩
                            rw [← HRR.out]
                            obtain ⟨e, he⟩ : ∃ e, e = errRec R' := ⟨_, rfl⟩
                            rw [← he] at HEE ⊢
                            have HSRz := Lib.hid (HSR.out.fr hFz (fun h => h))
                            have t1 := HSRz.out.cell 1
                            have tf := HSRz.out.frozen
                            simp only [List.getElem?_toArray, List.getElem?_cons_zero, List.getElem?_cons_succ] at t1
                            have HRz := Lib.hid ((HR2.out.fr hFz (fun h => h)).far (p := ⟨gs, 1, none⟩) (by show gs + 1 ≠ gs; omega) (.int .i64 e))
                            have HBzz := Lib.hid ((HBz.out.fr hFz (fun h => h)).far (p := ⟨gs, 1, none⟩) (by have := HZZ.out; show w.heap.size ≠ gs; omega) (.int .i64 e))
                            have HFzz := Lib.hid ((HFz.out.trans hFz).setCell (p := ⟨gs, 1, none⟩) (.inr (by have := HZZ.out; show w.heap.size ≤ gs; omega)) (.int .i64 e))
                            have HFq := Lib.hid ((hFz.mono (S' := fun k => k ≤ gs) (fun _ _ h => h.elim)).setCell (p := ⟨gs, 1, none⟩) (.inl (Nat.le_refl gs)) (.int .i64 e))
                            clear he hFz b0 b1 bf r0 r1 r2 r3 r4 HBz HFz
                            have HBz := HBzz
                            have HFz := HFzz
                            clear HBzz HFzz
                            by_cases h0 : e = 0
                            · subst h0
                              have HSRe := Lib.hid (show Blk (wz.setCell ⟨gs, 1, none⟩ (.int .i64 0)) gs 54 #[.slice Aj zs.length cj, .int .i64 0] from HSRz.out.set_ 1 (.int .i64 0))
                              have s1 := HSRe.out.cell 1
                              have r0 := HRz.out.cell 0
                              have r1 := HRz.out.cell 1
                              have r2 := HRz.out.cell 2
                              have r3 := HRz.out.cell 3
                              have r4 := HRz.out.cell 4
                              have z0 := HBz.out.cell 0
                              have z1 := HBz.out.cell 1
                              have z2 := HBz.out.cell 2
                              have z3 := HBz.out.cell 3
                              have z4 := HBz.out.cell 4
                              have zf := HBz.out.frozen
                              simp only [List.getElem?_toArray, List.getElem?_cons_zero, List.getElem?_cons_succ] at s1 r0 r1 r2 r3 r4 z0 z1 z2 z3 z4
                              go_wp2_with fail
                              have HB5 := set5 HBz.out (v0 := .int .i64 (n3 : Int)) (v1 := .int .i64 (n4 : Int)) (v2 := .int .i64 (n5 : Int)) (v3 := .slice Ad D.length cd) (v4 := .slice Ab B.length cb)
                              have HF5 := set5_Fr HFz.out (.inr (Nat.le_refl w.heap.size)) (.int .i64 (n3 : Int)) (.int .i64 (n4 : Int)) (.int .i64 (n5 : Int)) (.slice Ad D.length cd) (.slice Ab B.length cb)
                              have HG5 := set5_Fr HFq.out (.inl (by have := HZZ.out; show w.heap.size ≤ gs; omega)) (.int .i64 (n3 : Int)) (.int .i64 (n4 : Int)) (.int .i64 (n5 : Int)) (.slice Ad D.length cd) (.slice Ab B.length cb)
                              clear s1 r0 r1 r2 r3 r4 z0 z1 z2 z3 z4 zf t1 tf
                              generalize World.setCell _ ⟨w.heap.size, 4, none⟩ _ = W5 at HB5 HF5 HG5 ⊢
                              have c0 := HB5.cell 0
                              have c1 := HB5.cell 1
                              have c2 := HB5.cell 2
                              have c3 := HB5.cell 3
                              have c4 := HB5.cell 4
                              simp only [List.getElem?_toArray, List.getElem?_cons_zero, List.getElem?_cons_succ] at c0 c1 c2 c3 c4
                              refine bodyPost_ret (v := .tuple #[.agg #[.int .i64 (n3 : Int), .int .i64 (n4 : Int), .int .i64 (n5 : Int), .slice Ad D.length cd, .slice Ab B.length cb], .int .i64 0]) (by simp [results, Try.results10, go_sem, c0, c1, c2, c3, c4]) rfl ?_
                              refine RefEnd.ok (R := canonRec R') (by rw [HEE.out]; exact if_pos trivial) HF5 ⟨R', Ad, Ab, cd, cb, by rw [HRR.out], rfl, by rw [HRR.out]; exact HGD.out, ?_⟩
                              rw [HRR.out]
                              have hRD := Kd.R_step (w1 := W5) HDq.out (fun b hb hl => HG5.block b hl (fun e => by have h1 := hb.1; have := HBS.out; have h2 : b ≤ gs := e; omega))
                              have hRB := Kd.R_step (w1 := W5) HBq.out (fun b hb hl => HG5.block b hl (fun e => by have h1 : w10.heap.size ≤ b := hb; have := HB10.out; have h2 : b ≤ gs := e; omega))
                              exact ⟨(Kd.R_reads' hRD).2.1, (Kd.R_reads' hRB).2.1, (Kd.R_reads' hRD).2.2, (Kd.R_reads' hRB).2.2⟩
                            · have HST := Lib.hid (show RErr (wz.setCell ⟨gs, 1, none⟩ (.int .i64 e)) gs e from ⟨h0, _, _, _, HSRz.out.set_ 1 (.int .i64 e)⟩)
                              have HE := Lib.hid (show decR xs = .error e from by rw [HEE.out, if_neg h0])
                              clear h0 HEE
                              have s1 := HST.out.cell1
                              have te : (e == 0) = false := by have := HST.out.1; simpa using this
                              have te' : (e != 0) = true := by have := HST.out.1; simpa using this
                              go_wp2_with fail
                              clear s1
                              obtain ⟨St, hSt⟩ : ∃ St : World → Prop, St = fun x => x.cell? ⟨gs, 1, none⟩ = some (.int .i64 e) := ⟨_, rfl⟩
                              have l1 : ∀ x, At St x → x.cell? ⟨gs, 1, none⟩ = some (.int .i64 e) := fun x h => by have h1 := h.out; rw [hSt] at h1; exact h1
                              have hT0 : At St (wz.setCell ⟨gs, 1, none⟩ (.int .i64 e)).drew := by unfold At; rw [hSt]; exact HST.out.cell1
                              have HTM := Lib.hid (show ∀ x x', At St x → Fr (fun k => k = w.heap.size) x x' → At St x' from fun x x' h hF => by have h1 := h.out; rw [hSt] at h1; unfold At; rw [hSt]; exact hF.cell h1 (fun h2 => by have h3 : gs = w.heap.size := h2; have := HZZ.out; omega))
                              clear hSt
                              refine Code.wp_mono Calm.out ?_
                              refine rt_start [] (At St) 7 (by kernel_rfl) rfl ?_
                              have HBd := Lib.hid HBz.out.drew
                              have HFd := Lib.hid HFz.out.drew
                              clear HBz HFz HST
                              generalize (World.drew _) = Wd at HBd HFd hT0 ⊢
                              refine rt_free 0 (v := ?_) rfl (by kernel_rfl) (by kernel_rfl) (by kernel_rfl) (by kernel_rfl) (fun _ _ _ h => h) (by rfl) (fun _ => by first | assumption | exact HS0 _ rfl | exact HT.out _ (by repeat (first | exact Fr.refl _ _ | apply Fr.drew | refine Fr.alloc ?_ _))) ?_ ?_
                              rotate_left 1
                              · intro w; go_simp <;> with_reducible rfl
                              try simp only [Act.put, List.setIfInBounds_toArray, List.set_cons_zero, List.set_cons_succ]
                              refine rt_free 1 (v := ?_) rfl (by kernel_rfl) (by kernel_rfl) (by kernel_rfl) (by kernel_rfl) (fun _ _ _ h => h) (by rfl) (fun _ => by first | assumption | exact HS0 _ rfl | exact HT.out _ (by repeat (first | exact Fr.refl _ _ | apply Fr.drew | refine Fr.alloc ?_ _))) ?_ ?_
                              rotate_left 1
                              · intro w; go_simp <;> with_reducible rfl
                              try simp only [Act.put, List.setIfInBounds_toArray, List.set_cons_zero, List.set_cons_succ]
                              refine rt_free 2 (v := ?_) rfl (by kernel_rfl) (by kernel_rfl) (by kernel_rfl) (by kernel_rfl) (fun _ _ _ h => h) (by rfl) (fun _ => by first | assumption | exact HS0 _ rfl | exact HT.out _ (by repeat (first | exact Fr.refl _ _ | apply Fr.drew | refine Fr.alloc ?_ _))) ?_ ?_
                              rotate_left 1
                              · intro w; go_simp <;> with_reducible rfl
                              try simp only [Act.put, List.setIfInBounds_toArray, List.set_cons_zero, List.set_cons_succ]
                              refine rt_free 3 (v := ?_) rfl (by kernel_rfl) (by kernel_rfl) (by kernel_rfl) (by kernel_rfl) (fun _ _ _ h => h) (by rfl) (fun _ => by first | assumption | exact HS0 _ rfl | exact HT.out _ (by repeat (first | exact Fr.refl _ _ | apply Fr.drew | refine Fr.alloc ?_ _))) ?_ ?_
                              rotate_left 1
                              · intro w; go_simp <;> with_reducible rfl
                              try simp only [Act.put, List.setIfInBounds_toArray, List.set_cons_zero, List.set_cons_succ]
                              refine rt_take 4 (v := ?_) rfl (by kernel_rfl) (by kernel_rfl) (by kernel_rfl) (by kernel_rfl) (fun _ _ _ h => h) (by rfl) (by first | assumption | exact HS0 _ rfl | exact HT.out _ (by repeat (first | exact Fr.refl _ _ | apply Fr.drew | refine Fr.alloc ?_ _))) ?_ ?_
                              rotate_left 1
                              · intro w hSw; go_simp <;> with_reducible rfl
                              try simp only [Act.put, List.setIfInBounds_toArray, List.set_cons_zero, List.set_cons_succ]
                              refine rt_one 5 rfl (by kernel_rfl) (fun K hK => ?_)
                              have z0 := HBd.out.cell 0
                              have z1 := HBd.out.cell 1
                              have z2 := HBd.out.cell 2
                              have z3 := HBd.out.cell 3
                              have z4 := HBd.out.cell 4
                              have zf := HBd.out.frozen
                              simp only [List.getElem?_toArray, List.getElem?_cons_zero, List.getElem?_cons_succ] at z0 z1 z2 z3 z4
                              go_simp
                              have hT5 := HTM.out _ _ hT0 (set5_Fr (Fr.refl (fun k => k = w.heap.size) Wd) (.inl rfl) (.int .i64 0) (.int .i64 0) (.int .i64 0) (.slice none 0 0) (.slice none 0 0))
                              have HB5 := set5 HBd.out (v0 := .int .i64 0) (v1 := .int .i64 0) (v2 := .int .i64 0) (v3 := .slice none 0 0) (v4 := .slice none 0 0)
                              have HF5 := set5_Fr HFd.out (.inr (Nat.le_refl w.heap.size)) (.int .i64 0) (.int .i64 0) (.int .i64 0) (.slice none 0 0) (.slice none 0 0)
                              clear z0 z1 z2 z3 z4 zf hT0
                              generalize World.setCell _ _ _ = W5 at HB5 HF5 hT5 ⊢
                              refine hK.out (At St) _ _ (fun _ h => h) (fun _ => by (assumption)) ?_
                              clear hK K
                              try simp only [Act.put, List.setIfInBounds_toArray, List.set_cons_zero, List.set_cons_succ]
                              refine rt_free 6 (v := ?_) rfl (by kernel_rfl) (by kernel_rfl) (by kernel_rfl) (by kernel_rfl) (fun _ _ _ h => h) (by rfl) (fun _ => by first | assumption | exact HS0 _ rfl | exact HT.out _ (by repeat (first | exact Fr.refl _ _ | apply Fr.drew | refine Fr.alloc ?_ _))) ?_ ?_
                              rotate_left 1
                              · intro w; go_simp <;> with_reducible rfl
                              try simp only [Act.put, List.setIfInBounds_toArray, List.set_cons_zero, List.set_cons_succ]
                              refine rt_done (by kernel_rfl) ?_
                              all_goals refine Calm.mk ?_
                              all_goals go_wp2_with fail
                              all_goals have c0 := HB5.cell 0
                              all_goals have c1 := HB5.cell 1
                              all_goals have c2 := HB5.cell 2
                              all_goals have c3 := HB5.cell 3
                              all_goals have c4 := HB5.cell 4
                              all_goals simp only [List.getElem?_toArray, List.getElem?_cons_zero, List.getElem?_cons_succ] at c0 c1 c2 c3 c4
                              all_goals refine bodyPost_ret (v := .tuple #[zeroV, .int .i64 e]) (by simp [results, Try.results10, go_sem, c0, c1, c2, c3, c4]) rfl ?_
                              all_goals exact RefEnd.err HE.out HF5 rfl
                          · have tz : decide ((0 : Int) < (nz : Int)) = true := decide_eq_true (by omega)
                            have tz' : decide (0 < nz) = true := decide_eq_true hz
                            have HE := Lib.hid (show decR xs = .error 3 from by rw [HEND.out]; unfold endR; rw [if_neg (fun h => by have h1 := HNZ.out; rw [h] at h1; rw [h1] at hz; cases hz)])
                            have HST := Lib.hid (show RErr (wq.setCell ⟨gs, 1, none⟩ (.int .i64 3)) gs 3 from ⟨by decide, _, _, _, HSR.out.set_ 1 (.int .i64 3)⟩)
                            replace HBz := Lib.hid (HBz.out.far (p := ⟨gs, 1, none⟩) (by have := HZZ.out; show w.heap.size ≠ gs; omega) (.int .i64 3))
                            replace HFz := Lib.hid (HFz.out.setCell (p := ⟨gs, 1, none⟩) (.inr (by have := HZZ.out; show w.heap.size ≤ gs; omega)) (.int .i64 3))
                            clear hz HEND
                            obtain ⟨e, he⟩ : ∃ e : Int, e = 3 := ⟨_, rfl⟩
                            have s1 := HST.out.cell1
                            have te : ((3 : Int) == 0) = false := by decide
                            have te' : ((3 : Int) != 0) = true := by decide
                            go_wp2_with fail
                            clear s1
                            obtain ⟨St, hSt⟩ : ∃ St : World → Prop, St = fun x => x.cell? ⟨gs, 1, none⟩ = some (.int .i64 3) := ⟨_, rfl⟩
                            have l1 : ∀ x, At St x → x.cell? ⟨gs, 1, none⟩ = some (.int .i64 3) := fun x h => by have h1 := h.out; rw [hSt] at h1; exact h1
                            have hT0 : At St (wq.setCell ⟨gs, 1, none⟩ (.int .i64 3)).drew := by unfold At; rw [hSt]; exact HST.out.cell1
                            have HTM := Lib.hid (show ∀ x x', At St x → Fr (fun k => k = w.heap.size) x x' → At St x' from fun x x' h hF => by have h1 := h.out; rw [hSt] at h1; unfold At; rw [hSt]; exact hF.cell h1 (fun h2 => by have h3 : gs = w.heap.size := h2; have := HZZ.out; omega))
                            clear hSt
                            refine Code.wp_mono Calm.out ?_
                            refine rt_start [] (At St) 7 (by kernel_rfl) rfl ?_
                            have HBd := Lib.hid HBz.out.drew
                            have HFd := Lib.hid HFz.out.drew
                            clear HBz HFz HST
                            generalize (World.drew _) = Wd at HBd HFd hT0 ⊢
                            refine rt_free 0 (v := ?_) rfl (by kernel_rfl) (by kernel_rfl) (by kernel_rfl) (by kernel_rfl) (fun _ _ _ h => h) (by rfl) (fun _ => by first | assumption | exact HS0 _ rfl | exact HT.out _ (by repeat (first | exact Fr.refl _ _ | apply Fr.drew | refine Fr.alloc ?_ _))) ?_ ?_
                            rotate_left 1
                            · intro w; go_simp <;> with_reducible rfl
                            try simp only [Act.put, List.setIfInBounds_toArray, List.set_cons_zero, List.set_cons_succ]
                            refine rt_free 1 (v := ?_) rfl (by kernel_rfl) (by kernel_rfl) (by kernel_rfl) (by kernel_rfl) (fun _ _ _ h => h) (by rfl) (fun _ => by first | assumption | exact HS0 _ rfl | exact HT.out _ (by repeat (first | exact Fr.refl _ _ | apply Fr.drew | refine Fr.alloc ?_ _))) ?_ ?_
                            rotate_left 1
                            · intro w; go_simp <;> with_reducible rfl
                            try simp only [Act.put, List.setIfInBounds_toArray, List.set_cons_zero, List.set_cons_succ]
                            refine rt_free 2 (v := ?_) rfl (by kernel_rfl) (by kernel_rfl) (by kernel_rfl) (by kernel_rfl) (fun _ _ _ h => h) (by rfl) (fun _ => by first | assumption | exact HS0 _ rfl | exact HT.out _ (by repeat (first | exact Fr.refl _ _ | apply Fr.drew | refine Fr.alloc ?_ _))) ?_ ?_
                            rotate_left 1
                            · intro w; go_simp <;> with_reducible rfl
                            try simp only [Act.put, List.setIfInBounds_toArray, List.set_cons_zero, List.set_cons_succ]
                            refine rt_free 3 (v := ?_) rfl (by kernel_rfl) (by kernel_rfl) (by kernel_rfl) (by kernel_rfl) (fun _ _ _ h => h) (by rfl) (fun _ => by first | assumption | exact HS0 _ rfl | exact HT.out _ (by repeat (first | exact Fr.refl _ _ | apply Fr.drew | refine Fr.alloc ?_ _))) ?_ ?_
                            rotate_left 1
                            · intro w; go_simp <;> with_reducible rfl
                            try simp only [Act.put, List.setIfInBounds_toArray, List.set_cons_zero, List.set_cons_succ]
                            refine rt_take 4 (v := ?_) rfl (by kernel_rfl) (by kernel_rfl) (by kernel_rfl) (by kernel_rfl) (fun _ _ _ h => h) (by rfl) (by first | assumption | exact HS0 _ rfl | exact HT.out _ (by repeat (first | exact Fr.refl _ _ | apply Fr.drew | refine Fr.alloc ?_ _))) ?_ ?_
                            rotate_left 1
                            · intro w hSw; go_simp <;> with_reducible rfl
                            try simp only [Act.put, List.setIfInBounds_toArray, List.set_cons_zero, List.set_cons_succ]
                            refine rt_one 5 rfl (by kernel_rfl) (fun K hK => ?_)
                            have z0 := HBd.out.cell 0
                            have z1 := HBd.out.cell 1
                            have z2 := HBd.out.cell 2
                            have z3 := HBd.out.cell 3
                            have z4 := HBd.out.cell 4
                            have zf := HBd.out.frozen
                            simp only [List.getElem?_toArray, List.getElem?_cons_zero, List.getElem?_cons_succ] at z0 z1 z2 z3 z4
                            go_simp
                            have hT5 := HTM.out _ _ hT0 (set5_Fr (Fr.refl (fun k => k = w.heap.size) Wd) (.inl rfl) (.int .i64 0) (.int .i64 0) (.int .i64 0) (.slice none 0 0) (.slice none 0 0))
                            have HB5 := set5 HBd.out (v0 := .int .i64 0) (v1 := .int .i64 0) (v2 := .int .i64 0) (v3 := .slice none 0 0) (v4 := .slice none 0 0)
                            have HF5 := set5_Fr HFd.out (.inr (Nat.le_refl w.heap.size)) (.int .i64 0) (.int .i64 0) (.int .i64 0) (.slice none 0 0) (.slice none 0 0)
                            clear z0 z1 z2 z3 z4 zf hT0
                            generalize World.setCell _ _ _ = W5 at HB5 HF5 hT5 ⊢
                            refine hK.out (At St) _ _ (fun _ h => h) (fun _ => by (assumption)) ?_
                            clear hK K
                            try simp only [Act.put, List.setIfInBounds_toArray, List.set_cons_zero, List.set_cons_succ]
                            refine rt_free 6 (v := ?_) rfl (by kernel_rfl) (by kernel_rfl) (by kernel_rfl) (by kernel_rfl) (fun _ _ _ h => h) (by rfl) (fun _ => by first | assumption | exact HS0 _ rfl | exact HT.out _ (by repeat (first | exact Fr.refl _ _ | apply Fr.drew | refine Fr.alloc ?_ _))) ?_ ?_
                            rotate_left 1
                            · intro w; go_simp <;> with_reducible rfl
                            try simp only [Act.put, List.setIfInBounds_toArray, List.set_cons_zero, List.set_cons_succ]
                            refine rt_done (by kernel_rfl) ?_
                            all_goals refine Calm.mk ?_
                            all_goals go_wp2_with fail
                            all_goals have c0 := HB5.cell 0
                            all_goals have c1 := HB5.cell 1
                            all_goals have c2 := HB5.cell 2
                            all_goals have c3 := HB5.cell 3
                            all_goals have c4 := HB5.cell 4
                            all_goals simp only [List.getElem?_toArray, List.getElem?_cons_zero, List.getElem?_cons_succ] at c0 c1 c2 c3 c4
                            all_goals refine bodyPost_ret (v := .tuple #[zeroV, .int .i64 3]) (by simp [results, Try.results10, go_sem, c0, c1, c2, c3, c4]) rfl ?_
                            all_goals exact RefEnd.err HE.out HF5 rfl
    · have t4 : ((strOfNums (be8 (dOf ys1))).toList == (strOfNums ys2).toList) = false := str_ne (beTo_byt _ 8) HY2.out (fun h => he h.symm)
      rw [t4]
      simp only [Bool.not_false]
      have HE := Lib.hid (show decR xs = .error 21 from by unfold decR; rw [HOP.out, if_neg he]; rfl)
      have z0 := HBz.out.cell 0
      have z1 := HBz.out.cell 1
      have z2 := HBz.out.cell 2
      have z3 := HBz.out.cell 3
      have z4 := HBz.out.cell 4
      have zf := HBz.out.frozen
      simp only [List.getElem?_toArray, List.getElem?_cons_zero, List.getElem?_cons_succ] at z0 z1 z2 z3 z4
      clear he
      go_wp2_with fail
      have HB5 := set5 HBz.out (v0 := .int .i64 0) (v1 := .int .i64 0) (v2 := .int .i64 0) (v3 := .slice none 0 0) (v4 := .slice none 0 0)
      have HF5 := set5_Fr HFz.out (.inr (Nat.le_refl w.heap.size)) (.int .i64 0) (.int .i64 0) (.int .i64 0) (.slice none 0 0) (.slice none 0 0)
      generalize World.setCell _ _ _ = W5 at HB5 HF5 ⊢
      have c0 := HB5.cell 0
      have c1 := HB5.cell 1
      have c2 := HB5.cell 2
      have c3 := HB5.cell 3
      have c4 := HB5.cell 4
      simp only [List.getElem?_toArray, List.getElem?_cons_zero, List.getElem?_cons_succ] at c0 c1 c2 c3 c4
      refine bodyPost_ret (v := .tuple #[zeroV, .int .i64 21]) (by simp [results, Try.results10, go_sem, c0, c1, c2, c3, c4]) rfl ?_
      exact RefEnd.err HE.out HF5 rfl
end Go.Proofs.Ytelfpnpplknlpaa
