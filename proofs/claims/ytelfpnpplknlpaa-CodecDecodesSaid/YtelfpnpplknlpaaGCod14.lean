/- Texts of Cod, merged (14 of 27): CodE, Region. -/
import Derived.Test.YtelfpnpplknlpaaGCod13
import Derived.Test.YtelfpnpplknlpaaGCod1
import Derived.Deep.RegionHeld
set_option linter.unusedVariables false
set_option linter.unusedSimpArgs false
/- codec.Encode: a record's bytes, sealed; or what is wrong. -/
namespace Go.Proofs.Ytelfpnpplknlpaa
open Go.RowKit
open Go.Proofs.YtelfpnpplknlpaaW.PrintWords

/-- What the encoding ends in. -/
def EncEnd (w : World) (r : Rec) (e : Ending) (w' : World) : Prop := Fr (fun _ => False) w w' ∧
  (errRec r ≠ 0 → e = .returned (.tuple #[.slice none 0 0, .int .i64 (errRec r)])) ∧
  (errRec r = 0 → ∃ v, e = .returned (.tuple #[v, .int .i64 0]) ∧ OwB w' w.heap.size v (encRec r ++ be8 (dOf (encRec r))))
theorem ids_step {D : List (Int × Int)} {k : Nat} (h : k < D.length) : (D.take (k + 1)).flatMap encId = (D.take k).flatMap encId ++ encId (ida D k) := by
  rw [← List.take_append_getElem h, List.flatMap_append, List.flatMap_singleton, ida_eq h]
theorem cmds_step {B : List Cmd} {k : Nat} (h : k < B.length) : (B.take (k + 1)).flatMap encCmd = (B.take k).flatMap encCmd ++ encCmd (cmx B k) := by
  rw [← List.take_append_getElem h, List.flatMap_append, List.flatMap_singleton, cmx_eq h]
theorem encId_len {a : Int × Int} (h : errId a = 0) : (encId a).length ≤ 20 := by
  obtain ⟨h1, h2, h3, h4⟩ := errId_ok h
  unfold encId
  rw [List.length_append]
  have := digs_len10 (m := a.1.toNat) (by omega)
  have := digs_len10 (m := a.2.toNat) (by omega)
  omega
theorem encCmd_len {c : Cmd} (h : cmdOk c) : (encCmd c).length ≤ 40 := by
  obtain ⟨k, s, v⟩ := c
  obtain ⟨hk, hs, _⟩ := h
  have hs12 : s.size ≤ 12 := hs.2.2
  have h1 := digs_len10 (m := k.toNat) (by rcases hk with h | h | h | h <;> (simp only at h; subst h; decide))
  have h2 := digs_len10 (m := s.size) (by omega)
  have h3 : (be8 (canonP v)).length = 8 := rfl
  have h4 := bytesOf_length s
  unfold encCmd
  simp only [List.length_append]
  split
  · rw [h3]; omega
  · simp only [List.length_nil]; omega
theorem flat_le {α : Type} {f : α → List Int} {n : Nat} {L : List α} (h : ∀ a ∈ L, (f a).length ≤ n) : (L.flatMap f).length ≤ n * L.length := by
  induction L with
  | nil => simp
  | cons a l ih =>
    rw [List.flatMap_cons, List.length_append, List.length_cons, Nat.mul_add]
    have h1 := h a List.mem_cons_self
    have h2 := ih (fun b hb => h b (List.mem_cons_of_mem _ hb))
    omega
theorem byt_flat {α : Type} {f : α → List Int} {L : List α} (h : ∀ a ∈ L, Byt (f a)) : Byt (L.flatMap f) := fun x hx => by
  obtain ⟨a, ha, h1⟩ := List.mem_flatMap.1 hx
  exact h a ha x h1
theorem encCmd_byt {c : Cmd} (h : cmdOk c) : Byt (encCmd c) := by
  obtain ⟨k, s, v⟩ := c
  obtain ⟨hk, hs, _⟩ := h
  have hs12 : s.size ≤ 12 := hs.2.2
  have h1 : Byt (digs k.toNat) := digs_byt10 (by rcases hk with h | h | h | h <;> (simp only at h; subst h; decide))
  have h2 : Byt (digs s.size) := digs_byt10 (by omega)
  unfold encCmd
  refine (h1.append (h2.append (bytes_byt s))).append ?_
  simp only
  split
  · exact beTo_byt _ 8
  · exact fun x h => by cases h
theorem encRec_byt {r : Rec} (h : errRec r = 0) : Byt (encRec r) := by
  obtain ⟨h1, h2, h3, h4, h5, h6⟩ := errRec_zero h
  obtain ⟨b1, b2⟩ := errBat_zero h6
  have ib : ∀ a, errId a = 0 → Byt (digs a.1.toNat) ∧ Byt (digs a.2.toNat) := fun a ha => by
    obtain ⟨a0, a1, a2, a3⟩ := errId_ok ha
    exact ⟨digs_byt10 (by omega), digs_byt10 (by omega)⟩
  unfold encRec
  refine (ib _ h1).1.append ((ib _ h1).2.append ((digs_byt10 (by omega)).append ((digs_byt10 (by omega)).append ((byt_flat fun a ha => ?_).append ((digs_byt10 (by omega)).append (byt_flat fun c hc => encCmd_byt (b2 c hc)))))))
  exact (ib a (h5 a ha)).1.append (ib a (h5 a ha)).2
/-- The numbers in a slice that was just built. -/
theorem num_new (gb : Nat) (ys : List Int) (L : List Nat) (w : World) (cells : Array Value) (n g : Nat) (hc : cells = (L.map fun n : Nat => Value.int .i64 (n : Int)).toArray) (hn : n = L.length) (hg : g = w.heap.size)
    (h : BoxB w gb ys) (hL : ∀ n ∈ L, n ≤ 9223372036854775807) (hb : ys.length + 10 * L.length ≤ 1000000) :
    Calls Try.prog 24 #[.slice (some ⟨g, 0, none⟩) n n, .pointer (some ⟨gb, 0, none⟩)] (w.alloc (.cells cells 3)) fun r w' => r = .returned (.tuple #[]) ∧ BoxB w' gb (ys ++ L.flatMap digs) ∧ Fr (fun k => k = gb) w w' := by
  subst hc hn hg
  have hA := (Fr.refl (fun _ => False) w).alloc (.cells ((L.map fun n : Nat => Value.int .i64 (n : Int)).toArray) 3)
  refine (cod_num gb w.heap.size ys L _ (Blk.new w 3 _) (h.fr hA (fun _ _ _ h => h)) hL hb).mono ?_
  rintro r w' ⟨h1, h2, h3⟩
  exact ⟨h1, h2, (hA.mono (fun _ _ h => h.elim)).trans h3⟩
set_option maxRecDepth 100000 in
set_option maxHeartbeats 4000000 in
theorem cod_encode (r : Rec) (Ad Ab : Option Addr) (cd cb : Nat) (w : World) (h : RecAt w r Ad Ab cd cb) (hg : RecGood r) :
    Calls Try.prog 12 #[recV r Ad Ab cd cb] w (EncEnd w r) := by
  have hmf : ∀ (fn : Fn) (first cap : Array Value) (w : World), (Instr.makeFunc fn first cap).run Try.prog w = .ok (.func fn first cap) w := fun _ _ _ _ => rfl
  obtain ⟨⟨i1, i2⟩, q, D, B⟩ := r
  have hF := (Fr.refl (fun _ => False) w).alloc (.cells #[.int .i64 i1, .int .i64 i2, .int .i64 q, .slice Ad D.length cd, .slice Ab B.length cb] 32)
  have HX := Lib.hid (Blk.new w 32 #[.int .i64 i1, .int .i64 i2, .int .i64 q, .slice Ad D.length cd, .slice Ab B.length cb])
  have HC := Lib.hid (rec_check ((i1, i2), q, D, B) Ad Ab cd cb _ (h.fr hF) hg)
  have HE : ∀ e w', Hid (Fr (fun _ => False) w w' → (errRec ((i1, i2), q, D, B) ≠ 0 → e = .returned (.tuple #[.slice none 0 0, .int .i64 (errRec ((i1, i2), q, D, B))])) →
    (errRec ((i1, i2), q, D, B) = 0 → ∃ v, e = .returned (.tuple #[v, .int .i64 0]) ∧ OwB w' w.heap.size v (encRec ((i1, i2), q, D, B) ++ be8 (dOf (encRec ((i1, i2), q, D, B))))) → EncEnd w ((i1, i2), q, D, B) e w') := fun e w' h1 h2 h3 => ⟨h1, h2, h3⟩
  have HA := Lib.hid h
  have HG := Lib.hid hg
  have HF := Lib.hid hF
  have HZ := Lib.hid (fun hz => errRec_zero (r := ((i1, i2), q, D, B)) hz)
  obtain ⟨E, hE⟩ : ∃ E, E = EncEnd w ((i1, i2), q, D, B) := ⟨_, rfl⟩
  obtain ⟨ee, hee⟩ : ∃ ee, ee = errRec ((i1, i2), q, D, B) := ⟨_, rfl⟩
  obtain ⟨out, hout⟩ : ∃ out, out = encRec ((i1, i2), q, D, B) := ⟨_, rfl⟩
  rw [← hE]
  simp only [← hE, ← hee, ← hout] at HE
  simp only [← hee] at HC HZ
  have HOUT := Lib.hid hout
  have HZE := Lib.hid hee.symm
  obtain ⟨nd, hnd⟩ : ∃ nd, nd = D.length := ⟨_, rfl⟩
  obtain ⟨nb, hnb⟩ : ∃ nb, nb = B.length := ⟨_, rfl⟩
  rw [show recV ((i1, i2), q, D, B) Ad Ab cd cb = .agg #[.int .i64 i1, .int .i64 i2, .int .i64 q, .slice Ad nd cd, .slice Ab nb cb] by rw [hnd, hnb]]
  rw [show recV ((i1, i2), q, D, B) Ad Ab cd cb = .agg #[.int .i64 i1, .int .i64 i2, .int .i64 q, .slice Ad nd cd, .slice Ab nb cb] by rw [hnd, hnb]] at HC
  simp only [← hnd, ← hnb] at HX HF HC
  have HND := Lib.hid hnd
  have HNB := Lib.hid hnb
  have x0 := HX.out.cell 0
  have x1 := HX.out.cell 1
  have x2 := HX.out.cell 2
  have x3 := HX.out.cell 3
  have x4 := HX.out.cell 4
  simp only [List.getElem?_toArray, List.getElem?_cons_zero, List.getElem?_cons_succ] at x0 x1 x2 x3 x4
  clear hF h hg hE hee hout hnd hnb
  go_enter Try.func12, Try.ntmps12
  go_wp2_with fail
  refine HC.out.mono ?_
  rintro r w1 ⟨rfl, hF1⟩
  have HX1 := Lib.hid (HX.out.fr hF1 (fun h => h))
  have HF1 := Lib.hid (HF.out.trans hF1)
  clear hF1 x0 x1 x2 x3 x4 HX HF HC
  by_cases h0 : ee = 0
  · have te : (ee != 0) = false := by simp [h0]
    have hz := HZ.out h0
    obtain ⟨z1, z2, z3, z4, z5, z6⟩ := hz
    try simp only at z1 z2 z3 z4 z5 z6
    obtain ⟨a0, a1, a2, a3⟩ := errId_ok z1
    obtain ⟨b1, b2⟩ := errBat_zero z6
    try simp only at a0 a1 a2 a3
    obtain ⟨n1, rfl⟩ := Int.eq_ofNat_of_zero_le a0
    obtain ⟨n2, rfl⟩ := Int.eq_ofNat_of_zero_le (show 0 ≤ i2 from by omega)
    obtain ⟨n3, rfl⟩ := Int.eq_ofNat_of_zero_le (show 0 ≤ q from by omega)
    have HNN := Lib.hid (show n1 < 8 ∧ n2 ≤ 1048576 ∧ n3 ≤ 1073741824 ∧ nd ≤ 16 ∧ nb ≤ 8 from by have := HND.out; have := HNB.out; omega)
    have HDD := Lib.hid z5
    have HBB := Lib.hid b2
    have HEE := Lib.hid h0
    clear z1 z2 z3 z4 z5 z6 a0 a1 a2 a3 b1 b2 h0
    have hb0 := Blk.new w1 22 #[.slice none 0 0]
    have hf0 := (Fr.refl (fun _ => False) w1).alloc (.cells #[.slice none 0 0] 22)
    have HB2 := Lib.hid (show BoxB (w1.alloc (.cells #[.slice none 0 0] 22)) w1.heap.size [] from ⟨none, 0, hb0, OwB.nil _ _⟩)
    have HX2 := Lib.hid (HX1.out.fr hf0 (fun h => h))
    have HF2 := Lib.hid (HF1.out.trans hf0)
    have x0 := HX2.out.cell 0
    have x1 := HX2.out.cell 1
    have x2 := HX2.out.cell 2
    have x3 := HX2.out.cell 3
    simp only [List.getElem?_toArray, List.getElem?_cons_zero, List.getElem?_cons_succ] at x0 x1 x2 x3
    have HSZ := Lib.hid (show w.heap.size < w1.heap.size ∧ w1.heap.size + 1 = (w1.alloc (.cells #[.slice none 0 0] 22)).heap.size from ⟨HX1.out.lt, by simp⟩)
    clear hb0 hf0
    go_wp2_with fail
    clear x0 x1 x2 x3 te
    generalize w1.alloc (.cells #[.slice none 0 0] 22) = w2 at HB2 HX2 HF2 HSZ ⊢
    obtain ⟨gb, hgb⟩ : ∃ gb, gb = w1.heap.size := ⟨_, rfl⟩
    obtain ⟨gx, hgx⟩ : ∃ gx, gx = w.heap.size := ⟨_, rfl⟩
    rw [← hgb] at HB2 HSZ ⊢
    rw [← hgx] at HSZ HX2 ⊢
    have HGX := Lib.hid hgx
    clear HF1 HX1 hgb hgx
    refine (num_new gb [] [n1, n2, n3, nd] w2 _ 4 (gb + 1) rfl rfl HSZ.out.2 HB2.out (fun m hm => by have := HNN.out; simp at hm; omega) (by simp)).mono ?_
    rintro r w3 ⟨rfl, hB3, hF3⟩
    have HX3 := Lib.hid (HX2.out.fr hF3 (fun h => by have := HSZ.out; omega))
    have HB3 := Lib.hid hB3
    have HF3 := Lib.hid hF3
    have x2 := HX3.out.cell 3
    simp only [List.getElem?_toArray, List.getElem?_cons_zero, List.getElem?_cons_succ] at x2
    clear hB3 hF3
    obtain ⟨p1, hp1⟩ : ∃ p1, p1 = [] ++ [n1, n2, n3, nd].flatMap digs := ⟨_, rfl⟩
    rw [← hp1] at HB3
    have HP1 := Lib.hid hp1
    have HPL := Lib.hid (show p1.length ≤ 40 from by rw [hp1]; exact flat_len (L := [n1, n2, n3, nd]) (fun m hm => by have := HNN.out; simp at hm; omega))
    clear hp1
    have hndb : (nd : Int) ≤ 16 := by have := HNN.out; omega
    go_wp2_with fail
    go_loopw [34] (fun i wr => ∃ k : Nat, k ≤ nd ∧ i = .int .i64 k ∧ BoxB wr gb (p1 ++ (D.take k).flatMap encId) ∧ Fr (fun b => b = gb) w2 wr) (fun i _ => nd - (intOf i).toNat)
    case atStart => exact ⟨0, Nat.zero_le _, rfl, by simpa using HB3.out, HF3.out⟩
    case round =>
      obtain ⟨k, hk, rfl, hB, hF⟩ := hrel
      have HBr := Lib.hid hB
      have HFr := Lib.hid hF
      clear hB hF
      have HFa := Lib.hid (show Fr (fun _ => False) w wr from HF2.out.trans' HFr.out (fun i hi h => by have := HSZ.out; have := HGX.out; omega))
      rcases Nat.lt_or_ge k nd with hlt | hge
      · have hra := HA.out.fr HFa.out
        obtain ⟨bd, off, hAd, c0, c1⟩ := ids_at (n := nd) (by rw [HND.out]; exact hra.deps) hlt
        have hcd : nd ≤ cd := by rw [HND.out]; exact hra.ld
        subst hAd
        have hid := HDD.out (ida D k) (by rw [ida_eq (by rw [← HND.out]; exact hlt)]; exact List.getElem_mem _)
        obtain ⟨q0, q1, q2, q3⟩ := errId_ok hid
        obtain ⟨u, hu⟩ := Int.eq_ofNat_of_zero_le q0
        obtain ⟨v, hv⟩ := Int.eq_ofNat_of_zero_le (show 0 ≤ (ida D k).2 from by omega)
        have HUV := Lib.hid (show u ≤ 1048576 ∧ v ≤ 1048576 ∧ p1.length + 20 * k ≤ 1000 from by have := HPL.out; have := HNN.out; omega)
        have HST := Lib.hid (show p1 ++ (D.take (k + 1)).flatMap encId = (p1 ++ (D.take k).flatMap encId) ++ [u, v].flatMap digs from by
          rw [ids_step (by rw [← HND.out]; exact hlt), List.append_assoc]
          unfold encId
          rw [hu, hv]
          simp)
        have HLN := Lib.hid (show (p1 ++ (D.take k).flatMap encId).length ≤ 1000 from by
          have h1 := flat_le (L := D.take k) (f := encId) (n := 20) (fun a ha => encId_len (HDD.out a (List.mem_of_mem_take ha)))
          have h2 : (D.take k).length ≤ k := by rw [List.length_take]; omega
          rw [List.length_append]
          have := HUV.out
          omega)
        rw [hu] at c0
        rw [hv] at c1
        have hA1 := (Fr.refl (fun _ => False) wr).alloc (.cells #[.int .i64 (u : Int), .int .i64 (v : Int)] 28)
        have HB1 := Lib.hid (HBr.out.fr hA1 (fun _ _ _ h => h))
        have HF1 := Lib.hid (HFr.out.trans (hA1.mono (fun _ _ h => h.elim)))
        clear hra hid q0 q1 q2 q3 hu hv hA1
        go_wp2_with fail
        refine (num_new gb _ [u, v] _ _ 2 (wr.heap.size + 1) rfl rfl (by simp) HB1.out (fun m hm => by have := HUV.out; simp at hm; omega) (by have := HLN.out; simp only [List.length_cons, List.length_nil]; omega)).mono ?_
        rintro r w4 ⟨rfl, hB4, hF4⟩
        rw [← HST.out] at hB4
        have HB4 := Lib.hid hB4
        have HF4 := Lib.hid (HF1.out.trans hF4)
        clear hB4 hF4 c0 c1
        go_wp2_with fail
        go_roundw
        case rel => exact ⟨k + 1, by omega, by go_num, HB4.out, HF4.out⟩
        case measure => simp [intOf]; omega
      · obtain rfl : nd = k := by omega
        have tnn : decide (nd < nd) = false := decide_eq_false (by omega)
        have hBz := HBr.out
        rw [List.take_of_length_le (by rw [HND.out]; exact Nat.le_refl _)] at hBz
        obtain ⟨p2, hp2⟩ : ∃ p2, p2 = p1 ++ D.flatMap encId := ⟨_, rfl⟩
        rw [← hp2] at hBz
        have HBz := Lib.hid hBz
        have HP2 := Lib.hid hp2
        have HPL2 := Lib.hid (show p2.length ≤ 400 from by
          have h1 := flat_le (L := D) (f := encId) (n := 20) (fun a ha => encId_len (HDD.out a ha))
          have := HPL.out
          have := HNN.out
          have := HND.out
          rw [hp2, List.length_append]
          omega)
        have HXr := Lib.hid (HX2.out.fr HFr.out (fun h => by have := HSZ.out; omega))
        have x3 := HXr.out.cell 3
        have x4 := HXr.out.cell 4
        simp only [List.getElem?_toArray, List.getElem?_cons_zero, List.getElem?_cons_succ] at x3 x4
        clear hBz hp2 hge hk
        go_wp2_with fail
        refine (num_new gb p2 [nb] wr _ 1 wr.heap.size rfl rfl rfl HBz.out (fun m hm => by have := HNN.out; simp at hm; omega) (by have := HPL2.out; simp only [List.length_cons, List.length_nil]; omega)).mono ?_
        rintro r w4 ⟨rfl, hB4, hF4⟩
        obtain ⟨p3, hp3⟩ : ∃ p3, p3 = p2 ++ [nb].flatMap digs := ⟨_, rfl⟩
        rw [← hp3] at hB4
        have HB4 := Lib.hid hB4
        have HF4 := Lib.hid (HFr.out.trans hF4)
        have HP3 := Lib.hid hp3
        have HPL3 := Lib.hid (show p3.length ≤ 410 from by
          have h1 := flat_len (L := [nb]) (fun m hm => by have := HNN.out; simp at hm; omega)
          have := HPL2.out
          simp only [List.length_cons, List.length_nil] at h1
          rw [hp3, List.length_append]
          omega)
        have HX4 := Lib.hid (HXr.out.fr hF4 (fun h => by have := HSZ.out; omega))
        have x3 := HX4.out.cell 4
        simp only [List.getElem?_toArray, List.getElem?_cons_zero, List.getElem?_cons_succ] at x3
        have hnbb : (nb : Int) ≤ 8 := by have := HNN.out; omega
        clear hB4 hF4 hp3 x4 tnn HXr
        go_wp2_with fail
        go_loopw [55] (fun i wp => ∃ k : Nat, k ≤ nb ∧ i = .int .i64 k ∧ BoxB wp gb (p3 ++ (B.take k).flatMap encCmd) ∧ Fr (fun b => b = gb) w2 wp) (fun i _ => nb - (intOf i).toNat)
        case atStart => exact ⟨0, Nat.zero_le _, rfl, by simpa using HB4.out, HF4.out⟩
        case round =>
          obtain ⟨wq, rfl⟩ : ∃ x, x = wr := ⟨_, rfl⟩
          obtain ⟨k, hk, rfl, hB, hF⟩ := hrel
          have HBq := Lib.hid hB
          have HFq := Lib.hid hF
          clear hB hF
          have HFb := Lib.hid (show Fr (fun _ => False) w wq from HF2.out.trans' HFq.out (fun i hi h => by have := HSZ.out; have := HGX.out; omega))
          rcases Nat.lt_or_ge k nb with hlt | hge
          · have hra := HA.out.fr HFb.out
            obtain ⟨bd, off, hAd, c0, c1, c2⟩ := cmds_at (n := nb) (by rw [HNB.out]; exact hra.batch) hlt
            have hcd : nb ≤ cb := by rw [HNB.out]; exact hra.lb
            subst hAd
            have hx := cmx_mem (L := B) (i := k) (by rw [← HNB.out]; exact hlt)
            have hok := HBB.out _ hx
            have hgd := HG.out _ hx
            obtain ⟨x, hxx⟩ : ∃ x, x = cmx B k := ⟨_, rfl⟩
            have HSTP := Lib.hid (show p3 ++ (B.take (k + 1)).flatMap encCmd = (p3 ++ (B.take k).flatMap encCmd) ++ encCmd x from by rw [cmds_step (by rw [← HNB.out]; exact hlt), List.append_assoc, hxx])
            rw [← hxx] at c0 c1 c2 hok hgd
            obtain ⟨pre, hpre⟩ : ∃ pre, pre = p3 ++ (B.take k).flatMap encCmd := ⟨_, rfl⟩
            have HLN := Lib.hid (show pre.length ≤ 1000 from by
              have h1 := flat_le (L := B.take k) (f := encCmd) (n := 40) (fun a ha => encCmd_len (HBB.out a (List.mem_of_mem_take ha)))
              have h2 : (B.take k).length ≤ k := by rw [List.length_take]; omega
              have := HPL3.out
              have := HNN.out
              rw [hpre, List.length_append]
              omega)
            rw [← hpre] at HSTP HBq
            obtain ⟨kk, ss, vv⟩ := x
            have hk0 : 0 ≤ kk := by rcases hok.1 with h | h | h | h <;> (simp only at h; omega)
            obtain ⟨u, rfl⟩ := Int.eq_ofNat_of_zero_le hk0
            have HU := Lib.hid (show u ≤ 4 ∧ ss.size ≤ 12 ∧ vv < 18446744073709551616 from ⟨by rcases hok.1 with h | h | h | h <;> (simp only at h; omega), hok.2.1.2.2, hgd.2⟩)
            have hB1 := Blk.new wq 58 #[.int .i64 (u : Int), .string ss, .float .f64 vv]
            have hA1 := (Fr.refl (fun _ => False) wq).alloc (.cells #[.int .i64 (u : Int), .string ss, .float .f64 vv] 58)
            have HB1 := Lib.hid (HBq.out.fr hA1 (fun _ _ _ h => h))
            have HF1 := Lib.hid (HFq.out.trans (hA1.mono (fun _ _ h => h.elim)))
            have HC1 := Lib.hid hB1
            have y0 := hB1.cell 0
            simp only [List.getElem?_toArray, List.getElem?_cons_zero, List.getElem?_cons_succ] at c0 c1 c2 y0
            clear hra hx hok hgd hxx hpre hk0 hA1 hB1
            go_wp2_with fail
            have HGQ := Lib.hid (show gb < wq.heap.size from by have h1 := HFq.out.size; have := HSZ.out; omega)
            refine (num_new gb pre [u] _ _ 1 (wq.heap.size + 1) rfl rfl (by simp) HB1.out (fun m hm => by have := HU.out; simp at hm; omega) (by have := HLN.out; simp only [List.length_cons, List.length_nil]; omega)).mono ?_
            rintro r w5 ⟨rfl, hB5, hF5⟩
            have hC5 := HC1.out.fr hF5 (fun h => by have := HGQ.out; omega)
            have HF5 := Lib.hid (HF1.out.trans hF5)
            obtain ⟨gc, hgc⟩ : ∃ gc, gc = wq.heap.size := ⟨_, rfl⟩
            rw [← hgc] at hC5 HGQ ⊢
            have HC5 := Lib.hid hC5
            obtain ⟨p5, hp5⟩ : ∃ p5, p5 = pre ++ [u].flatMap digs := ⟨_, rfl⟩
            rw [← hp5] at hB5
            have HP5 := Lib.hid (show p5 = pre ++ digs u from by rw [hp5]; simp)
            have HL5 := Lib.hid (show p5.length ≤ 1010 from by
              have h1 := digs_len10 (m := u) (by have := HU.out; omega)
              have := HLN.out
              rw [HP5.out, List.length_append]
              omega)
            obtain ⟨A5, c5, hb5, ho5⟩ := hB5
            have HB5 := Lib.hid hb5
            have HO5 := Lib.hid ho5
            have d0 := hb5.cell 0
            have y1 := hC5.cell 1
            simp only [List.getElem?_toArray, List.getElem?_cons_zero, List.getElem?_cons_succ] at d0 y1
            clear hF5 hC5 hp5 hb5 ho5 c0 c1 c2 y0 hgc HB1 HF1 HC1
            go_wp2_with fail
            refine (wire_putText A5 p5 c5 ss _ HO5.out.cap (by obtain ⟨A2, c2, e, hr⟩ := HO5.out.reads; injection e with e _ _; rw [e]; exact hr) (by have := HL5.out; have := HU.out; omega)).mono ?_
            rintro r w6 ⟨v, rfl, ho6, hF6⟩
            obtain ⟨p6, hp6⟩ : ∃ p6, p6 = p5 ++ digs ss.size ++ bytesOf ss := ⟨_, rfl⟩
            rw [← hp6] at ho6
            obtain ⟨A6, c6, rfl, _⟩ := ho6.reads
            have HB6 := Lib.hid (BoxB.put HB5.out hF6 ho6)
            have hb6 := HB5.out.fr hF6 (fun h => h)
            have d0 := hb6.cell 0
            have df := hb6.frozen
            have HC6 := Lib.hid ((HC5.out.fr hF6 (fun h => h)).far (p := ⟨gb, 0, none⟩) (by have := HGQ.out; show gc ≠ gb; omega) (.slice A6 p6.length c6))
            have y0 := HC6.out.cell 0
            simp only [List.getElem?_toArray, List.getElem?_cons_zero, List.getElem?_cons_succ] at d0 y0
            have HF6 := Lib.hid (((HF5.out.trans (hF6.mono (fun _ _ h => h.elim))).setCell (p := ⟨gb, 0, none⟩) (.inl rfl) (.slice A6 p6.length c6)))
            have HP6 := Lib.hid (show p6 = pre ++ (digs u ++ (digs ss.size ++ bytesOf ss)) from by rw [hp6, HP5.out]; simp only [List.append_assoc])
            have HL6 := Lib.hid (show p6.length ≤ 1040 from by
              have h1 := digs_len10 (m := ss.size) (by have := HU.out; omega)
              have h2 := bytesOf_length ss
              have := HL5.out
              have := HU.out
              rw [hp6, List.length_append, List.length_append]
              omega)
            clear ho6 hF6 hb6 hp6 y1 HB5 HO5 HC5 HF5
            go_wp2_with fail
            generalize w6.setCell ⟨gb, 0, none⟩ (.slice A6 p6.length c6) = w7 at HB6 HC6 HF6 y0 ⊢
            clear d0 df
            refine (cod_has u _).mono ?_
            rintro r w8 ⟨rfl, rfl⟩
            cases hh : hasV u with
            | false =>
              have HEQ := Lib.hid (show p6 = p3 ++ (B.take (k + 1)).flatMap encCmd from by rw [HSTP.out, HP6.out]; unfold encCmd; simp only [Int.toNat_natCast, hh]; simp)
              clear hh
              go_wp2_with fail
              go_roundw
              case rel => exact ⟨k + 1, by omega, by go_num, by rw [← HEQ.out]; exact HB6.out, HF6.out⟩
              case measure => simp [intOf]; omega
            | true =>
              have HEQ := Lib.hid (show p6 ++ be8 (canonP vv) = p3 ++ (B.take (k + 1)).flatMap encCmd from by rw [HSTP.out, HP6.out]; unfold encCmd; simp only [Int.toNat_natCast, hh]; simp)
              obtain ⟨A7, c7, hb7, ho7⟩ := HB6.out
              have HB7 := Lib.hid hb7
              have HO7 := Lib.hid ho7
              obtain ⟨St, hSt⟩ : ∃ St : World → Prop, St = fun x => x.cell? ⟨gb, 0, none⟩ = some (.slice A7 p6.length c7) ∧ x.cell? ⟨gc, 2, none⟩ = some (.float .f64 vv) := ⟨_, rfl⟩
              have l0 : ∀ x, At St x → x.cell? ⟨gb, 0, none⟩ = some (.slice A7 p6.length c7) := fun x h => by have h1 := h.out; rw [hSt] at h1; exact h1.1
              have l1 : ∀ x, At St x → x.cell? ⟨gc, 2, none⟩ = some (.float .f64 vv) := fun x h => by have h1 := h.out; rw [hSt] at h1; exact h1.2
              have HMK := Lib.hid (show ∀ x, Blk x gb 22 #[.slice A7 p6.length c7] → Blk x gc 58 #[.int .i64 (u : Int), .string ss, .float .f64 vv] → At St x from fun x h h' => by unfold At; rw [hSt]; exact ⟨h.cell 0, h'.cell 2⟩)
              have hT0 : At St w7.drew := HMK.out _ hb7.drew HC6.out.drew
              clear hh hb7 ho7 hSt y0
              go_wp2_with fail
              refine rt_start [5] (At St) 6 (by kernel_rfl) rfl ?_
              refine rt_take 0 (v := ?_) rfl (by kernel_rfl) (by kernel_rfl) (by kernel_rfl) (by kernel_rfl) (fun _ _ _ h => h) (by rfl) (by first | assumption | exact HS0 _ rfl | exact HT.out _ (by repeat (first | exact Fr.refl _ _ | apply Fr.drew | refine Fr.alloc ?_ _))) ?_ ?_
              rotate_left 1
              · intro w hSw; go_simp <;> with_reducible rfl
              try simp only [Act.put, List.setIfInBounds_toArray, List.set_cons_zero, List.set_cons_succ]
              refine rt_free 1 (v := ?_) rfl (by kernel_rfl) (by kernel_rfl) (by kernel_rfl) (by kernel_rfl) (fun _ _ _ h => h) (by rfl) (fun _ => by first | assumption | exact HS0 _ rfl | exact HT.out _ (by repeat (first | exact Fr.refl _ _ | apply Fr.drew | refine Fr.alloc ?_ _))) ?_ ?_
              rotate_left 1
              · intro w; go_simp <;> with_reducible rfl
              try simp only [Act.put, List.setIfInBounds_toArray, List.set_cons_zero, List.set_cons_succ]
              refine rt_take 2 (v := ?_) rfl (by kernel_rfl) (by kernel_rfl) (by kernel_rfl) (by kernel_rfl) (fun _ _ _ h => h) (by rfl) (by first | assumption | exact HS0 _ rfl | exact HT.out _ (by repeat (first | exact Fr.refl _ _ | apply Fr.drew | refine Fr.alloc ?_ _))) ?_ ?_
              rotate_left 1
              · intro w hSw; go_simp <;> with_reducible rfl
              try simp only [Act.put, List.setIfInBounds_toArray, List.set_cons_zero, List.set_cons_succ]
              refine rt_one 3 rfl (by kernel_rfl) (fun K hK => ?_)
              go_simp
              refine (real_bits vv _).mono ?_
              rintro r w8 ⟨rfl, rfl⟩
              refine hK.out (At St) _ _ (fun _ h => h) (fun _ => by (assumption)) ?_
              clear hK K
              try simp only [Act.put, List.setIfInBounds_toArray, List.set_cons_zero, List.set_cons_succ]
              refine rt_one 4 rfl (by kernel_rfl) (fun K hK => ?_)
              go_simp
              refine (wire_eight A7 p6 c7 (canonP vv) _ HO7.out.cap (by obtain ⟨A2, c2, e, hr⟩ := (HO7.out.fr (Fr.refl (fun _ => False) w7).drew (fun _ _ _ h => h)).reads; injection e with e _ _; rw [e]; exact hr) (by have := HL6.out; omega) (canon_lt (by have := HU.out; omega))).mono ?_
              rintro r w8 ⟨v, rfl, ho8, hF8⟩
              have hF8 := (Fr.refl (fun _ => False) w7).drew.trans hF8
              have ho8 : OwB w8 w7.heap.size v (p6 ++ be8 (canonP vv)) := ho8
              obtain ⟨p8, hp8⟩ : ∃ p8, p8 = p6 ++ be8 (canonP vv) := ⟨_, rfl⟩
              rw [← hp8] at ho8
              rw [← hp8] at HEQ
              obtain ⟨A8, c8, rfl, _⟩ := ho8.reads
              have hT8 := HMK.out _ (HB7.out.fr hF8 (fun h => h)) (HC6.out.fr hF8 (fun h => h))
              have hb8 := HB7.out.fr hF8 (fun h => h)
              have HB8 := Lib.hid (BoxB.put HB7.out hF8 ho8)
              have HF8 := Lib.hid (((HF6.out.trans (hF8.mono (fun _ _ h => h.elim))).setCell (p := ⟨gb, 0, none⟩) (.inl rfl) (.slice A8 p8.length c8)))
              clear hT0 hp8 ho8 hF8
              refine hK.out (At St) _ _ (fun _ h => h) (fun _ => by (assumption)) ?_
              clear hK K
              try simp only [Act.put, List.setIfInBounds_toArray, List.set_cons_zero, List.set_cons_succ]
              refine rt_one 5 rfl (by kernel_rfl) (fun K hK => ?_)
              have d0 := hb8.cell 0
              have df := hb8.frozen
              simp only [List.getElem?_toArray, List.getElem?_cons_zero, List.getElem?_cons_succ] at d0
              go_simp
              refine hK.out (At St) _ _ (fun _ h => h) (late_abs (by kernel_rfl)) ?_
              clear hK K
              try simp only [Act.put, List.setIfInBounds_toArray, List.set_cons_zero, List.set_cons_succ]
              refine rt_done (by kernel_rfl) ?_
              go_wp2_with fail
              go_roundw
              case rel => exact ⟨k + 1, by omega, by go_num, by rw [← HEQ.out]; exact HB8.out, HF8.out⟩
              case measure => simp [intOf]; omega
          · obtain rfl : nb = k := by omega
            have tnn : decide (nb < nb) = false := decide_eq_false (by omega)
            have hBz := HBq.out
            rw [List.take_of_length_le (by rw [HNB.out]; exact Nat.le_refl _)] at hBz
            have ho : p3 ++ B.flatMap encCmd = out := by
              rw [HOUT.out, HP3.out, HP2.out, HP1.out, HND.out, HNB.out]
              unfold encRec
              simp
            rw [ho] at hBz
            have HOL := Lib.hid (show out.length ≤ 1000 from by
              have h1 := flat_le (L := B) (f := encCmd) (n := 40) (fun a ha => encCmd_len (HBB.out a ha))
              have := HPL3.out
              have := HNN.out
              have := HNB.out
              rw [← ho, List.length_append]
              omega)
            obtain ⟨A9, c9, hb9, ho9⟩ := hBz
            have HO9 := Lib.hid ho9
            have d0 := hb9.cell 0
            simp only [List.getElem?_toArray, List.getElem?_cons_zero, List.getElem?_cons_succ] at d0
            clear hb9 ho9 hge hk ho
            go_wp2_with fail
            refine (dig_seal A9 out c9 _ HO9.out.cap (by obtain ⟨A2, c2, e, hr⟩ := HO9.out.reads; injection e with e _ _; rw [e]; exact hr) (by rw [HOUT.out]; exact encRec_byt (HZE.out.trans HEE.out)) (by have := HOL.out; omega)).mono ?_
            rintro r w10 ⟨v, rfl, ho10, hF10⟩
            have HO10 := Lib.hid (ho10.lower (B' := w.heap.size) HFb.out.size)
            have HF10 := Lib.hid (HFb.out.trans hF10)
            clear ho10 hF10 tnn
            go_wp2_with fail
            exact (HE _ _).out HF10.out (fun h => absurd HEE.out h) (fun _ => ⟨_, rfl, HO10.out⟩)
  · have te : (ee != 0) = true := by simpa using h0
    have HN := Lib.hid h0
    clear h0
    go_wp2_with fail
    exact (HE _ _).out HF1.out (fun _ => rfl) (fun h => absurd h HN.out)
set_option maxRecDepth 100000 in
/-- How many bytes a record has. -/
theorem cod_size (r : Rec) (Ad Ab : Option Addr) (cd cb : Nat) (w : World) (h : RecAt w r Ad Ab cd cb) (hg : RecGood r) :
    Calls Try.prog 14 #[recV r Ad Ab cd cb] w fun e w' => e = .returned (.int .i64 (if errRec r = 0 then ((encRec r ++ be8 (dOf (encRec r))).length : Int) else 0)) ∧ Fr (fun _ => False) w w' := by
  obtain ⟨⟨i1, i2⟩, q, D, B⟩ := r
  have hF := (Fr.refl (fun _ => False) w).alloc (.cells #[.int .i64 i1, .int .i64 i2, .int .i64 q, .slice Ad D.length cd, .slice Ab B.length cb] 32)
  have HX := Lib.hid (Blk.new w 32 #[.int .i64 i1, .int .i64 i2, .int .i64 q, .slice Ad D.length cd, .slice Ab B.length cb])
  have HC := Lib.hid (cod_encode ((i1, i2), q, D, B) Ad Ab cd cb _ (h.fr hF) hg)
  have HF := Lib.hid hF
  have x0 := HX.out.cell 0
  have x1 := HX.out.cell 1
  have x2 := HX.out.cell 2
  have x3 := HX.out.cell 3
  have x4 := HX.out.cell 4
  simp only [List.getElem?_toArray, List.getElem?_cons_zero, List.getElem?_cons_succ] at x0 x1 x2 x3 x4
  by_cases h0 : errRec ((i1, i2), q, D, B) = 0
  · rw [if_pos h0]
    have H0 := Lib.hid h0
    obtain ⟨l, hl⟩ : ∃ l, l = encRec ((i1, i2), q, D, B) ++ be8 (dOf (encRec ((i1, i2), q, D, B))) := ⟨_, rfl⟩
    rw [← hl]
    have HL := Lib.hid hl
    clear hF h hg h0 hl
    go_enter Try.func14, Try.ntmps14
    go_wp2_with fail
    refine HC.out.mono ?_
    rintro r w1 ⟨hF1, _, h2⟩
    obtain ⟨v, rfl, ho⟩ := h2 H0.out
    rw [← HL.out] at ho
    obtain ⟨A, c, rfl, _⟩ := ho.reads
    have HF1 := Lib.hid (HF.out.trans hF1)
    clear hF1 h2 ho
    go_wp2_with fail
    go_ret
    exact ⟨rfl, HF1.out⟩
  · rw [if_neg h0]
    have H0 := Lib.hid h0
    clear hF h hg h0
    go_enter Try.func14, Try.ntmps14
    go_wp2_with fail
    refine HC.out.mono ?_
    rintro r w1 ⟨hF1, h2, _⟩
    obtain rfl := h2 H0.out
    have HF1 := Lib.hid (HF.out.trans hF1)
    clear hF1 h2
    go_wp2_with fail
    go_ret
    exact ⟨rfl, HF1.out⟩
end Go.Proofs.Ytelfpnpplknlpaa
/- A drawn region with calls, step by step: an operation that yields in every later world may be taken first; a call gives its contract, and from there on "later" means: later than the call's end. No program in sight. -/
namespace Go.Proofs.Ytelfpnpplknlpaa

section
variable {P : Program} {Q : Exit → Act → World → Prop} {md : Region.Mode}

/-- Later worlds, in which no old block has changed. -/
abbrev Later (w : World) : World → Prop := Fr (fun _ => False) w

theorem wpAnyH_mono {ops : Array Oper} {S S' : World → Prop} (hSS : ∀ w, S' w → S w) :
    ∀ (fuel : Nat) (listed : Array Bool) (a : Act) (w : World), wpAnyH P md ops Q S' fuel listed a w → wpAnyH P md ops Q S fuel listed a w
  | 0, _, _, _, h => h
  | fuel + 1, _, _, _, h => ⟨h.1, fun i hi => wpOp_mono (fun a' w' h' => ⟨hSS _ h'.1, wpAnyH_mono hSS fuel _ a' w' h'.2⟩) (h.2 i hi)⟩

theorem rg_start (n : Nat) {id : Nat} {l : List Oper} {a : Act} {w : World} (hm : P.follows .mixedOrders = true) (hn : l.length = n)
    (h : wpAnyH P .any l.toArray Q (Later w.drew) n (Array.replicate n false) a w.drew) : (Code.region id l.toArray true).wp P Q a w := by
  subst hn
  exact wp_region_held hm h

theorem rg_take (i : Nat) {l : List Oper} {oi : Oper} {v : Value} {fuel : Nat} {listed : Array Bool} {a : Act} {w : World} (hi : l[i]? = some oi)
    (hs : Region.noSelect l.toArray = true) (hf : Region.free md l.toArray listed i = true) (hr : (Region.ready md l.toArray listed).contains i = true)
    (hQ : ∀ c a w, Q (.panic c) (a.put oi.dst v) w → Q (.panic c) a w) (hw : Region.wanted oi (yielded l.toArray a.tmps) = true)
    (hy : ∀ w', Later w w' → (execOp a.eval oi).run P w' = .ok (.value v) w')
    (h : wpAnyH P md l.toArray Q (Later w) fuel (listed.setIfInBounds i true) (a.put oi.dst v) w) : wpAnyH P md l.toArray Q (Later w) (fuel + 1) listed a w :=
  wpAnyH_take (by rw [List.getElem?_toArray]; exact hi) hs hf hr hQ (.inl ⟨hw, hy⟩) (Fr.refl _ _) h

theorem rg_skip (i : Nat) {l : List Oper} {oi : Oper} {fuel : Nat} {listed : Array Bool} {a : Act} {w : World} (hi : l[i]? = some oi)
    (hs : Region.noSelect l.toArray = true) (hf : Region.free md l.toArray listed i = true) (hr : (Region.ready md l.toArray listed).contains i = true)
    (hQ : ∀ c a w, Q (.panic c) (a.put oi.dst undef) w → Q (.panic c) a w) (hw : Region.wanted oi (yielded l.toArray a.tmps) = false)
    (h : wpAnyH P md l.toArray Q (Later w) fuel (listed.setIfInBounds i true) (a.put oi.dst undef) w) : wpAnyH P md l.toArray Q (Later w) (fuel + 1) listed a w :=
  wpAnyH_take (by rw [List.getElem?_toArray]; exact hi) hs hf hr hQ (.inr ⟨hw, rfl⟩) (Fr.refl _ _) h

def AllNext (P : Program) (md : Region.Mode) (l : List Oper) (Q : Exit → Act → World → Prop) (fuel : Nat) (listed : Array Bool) (a : Act) (w : World) (rs : List Nat) : Prop :=
  ∀ i ∈ rs, wpOp P l.toArray Q i (fun a' w' => Later w w' ∧ wpAnyH P md l.toArray Q (Later w') fuel (listed.setIfInBounds i true) a' w') a w

theorem AllNext.nil {l : List Oper} {fuel : Nat} {listed : Array Bool} {a : Act} {w : World} : AllNext P md l Q fuel listed a w [] := fun _ h => by cases h

theorem AllNext.cons {l : List Oper} {fuel : Nat} {listed : Array Bool} {a : Act} {w : World} {i : Nat} {o : Oper} {rs : List Nat} (ho : l[i]? = some o)
    (h : ∀ K' : Act → World → Prop, Shut (∀ a w', Later w w' → wpAnyH P md l.toArray Q (Later w') fuel (listed.setIfInBounds i true) a w' → K' a w') → if Region.wanted o (yielded l.toArray a.tmps) = true then Oper.wp P o a w K' Q else K' (a.put o.dst undef) w)
    (hs : AllNext P md l Q fuel listed a w rs) : AllNext P md l Q fuel listed a w (i :: rs) := fun j hj => by
  rcases List.mem_cons.1 hj with rfl | hj
  · exact wpOp_step (by rw [List.getElem?_toArray]; exact ho) (fun K' hK => h K' (fun a w hS hW => hK a w ⟨hS, hW⟩))
  · exact hs j hj

theorem rg_ready (rs : List Nat) {l : List Oper} {fuel : Nat} {listed : Array Bool} {a : Act} {w : World} (hr : Region.ready md l.toArray listed = rs) (hne : rs ≠ [])
    (h : AllNext P md l Q fuel listed a w rs) : wpAnyH P md l.toArray Q (Later w) (fuel + 1) listed a w :=
  wpAnyH_all hr hne fun i hi => wpOp_mono (fun a' w' h' => ⟨h'.1, wpAnyH_mono (fun _ hx => Fr.trans h'.1 hx) _ _ _ _ h'.2⟩) (h i hi)

/-- One call alone may come up. -/
theorem rg_one (i : Nat) {l : List Oper} {o : Oper} {fuel : Nat} {listed : Array Bool} {a : Act} {w : World} (ho : l[i]? = some o) (hr : Region.ready md l.toArray listed = [i])
    (h : ∀ K' : Act → World → Prop, Shut (∀ a w', Later w w' → wpAnyH P md l.toArray Q (Later w') fuel (listed.setIfInBounds i true) a w' → K' a w') → if Region.wanted o (yielded l.toArray a.tmps) = true then Oper.wp P o a w K' Q else K' (a.put o.dst undef) w) :
    wpAnyH P md l.toArray Q (Later w) (fuel + 1) listed a w :=
  rg_ready [i] hr (by simp) (AllNext.cons ho h AllNext.nil)

theorem rg_done {l : List Oper} {listed : Array Bool} {a : Act} {w : World} {S : World → Prop} {fuel : Nat} (hr : Region.ready md l.toArray listed = []) (h : Q .normal a w) : wpAnyH P md l.toArray Q S fuel listed a w :=
  wpAnyH_done hr h fuel
end
end Go.Proofs.Ytelfpnpplknlpaa
