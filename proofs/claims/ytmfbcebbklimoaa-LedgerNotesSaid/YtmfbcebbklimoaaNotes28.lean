/- LedgerNotes' walk. -/
import Derived.Test.YtmfbcebbklimoaaLedE
import Derived.Deep.CutRange
set_option linter.unusedVariables false
set_option linter.unusedSimpArgs false
namespace Go.Proofs.Ytmfbcebbklimoaa
open Go.RowKit
open Go.Proofs.YtmfbcebbklimoaaW.PrintWords

def EntsGood (L : List Ent) : Prop := ∀ a ∈ L, (Lit.int .i64 a.1).wf = true ∧ ∀ x ∈ a.2.2.2.2, CmdOk x
theorem wrap64_in (j : Int) (h0 : -9223372036854775808 ≤ j) (h1 : j ≤ 9223372036854775807) : IntKind.i64.wrap j = j := by
  simp only [IntKind.wrap, IntKind.signed, IntKind.bits]
  first | omega | go_num
theorem keptE_30 {L : List Ent} (h : ∀ a ∈ L, a.2.2.2.1.length ≤ 30 ∧ a.2.2.2.2.length ≤ 30) : ∀ r ∈ keptE L, r.2.2.1.length ≤ 1000000 ∧ r.2.2.2.length ≤ 1000000 := fun r hr => by
  obtain ⟨a, ha, rfl⟩ := List.mem_map.1 hr
  have := h a (List.mem_filter.1 ha).1
  omega
theorem ent_cells {w : World} {A : Option Addr} {n : Nat} {L : List Ent} (h : entK.C w A n L) (hn : 0 < n) : ∃ b off, A = some ⟨b, off, none⟩ ∧ ∀ i, i < n → w.cell? ⟨b, off + i * 6, none⟩ = some (.int .i64 (enx L i).1) := by
  obtain ⟨b, off, _, _, _, _, rfl, _⟩ := ents_at h hn
  refine ⟨b, off, rfl, fun i hi => ?_⟩
  obtain ⟨b', off', _, _, _, _, e, _, z, _⟩ := ents_at h hi
  injection e with e
  injection e with e1 e2
  rw [e1, e2]
  exact z
theorem err_flat (E : List Int) : E.flatMap (fun i => [Value.int .i64 i]) = E.map (fun i => Value.int .i64 i) := by
  induction E with
  | nil => rfl
  | cons a E ih => rw [List.flatMap_cons, ih]; rfl
theorem err_cell {w : World} {b : Nat} {t : TypeId} {L : List Ent} (h : Blk w b t ((errsE L).flatMap (fun i => [Value.int .i64 i])).toArray) {i : Nat} (hi : i < L.length) : w.cell? ⟨b, i, none⟩ = some (.int .i64 (enx L i).1) := by
  have h2 := h.cell i
  rw [err_flat, List.getElem?_toArray, List.getElem?_map] at h2
  rw [h2]
  unfold errsE
  rw [List.getElem?_map, List.getElem?_eq_getElem hi, ← enx_eq hi]
  rfl
theorem keptE_ok {L : List Ent} (h : EntsGood L) : ∀ r ∈ keptE L, ∀ x ∈ r.2.2.2, CmdOk x := fun r hr => by
  obtain ⟨a, ha, rfl⟩ := List.mem_map.1 hr
  exact (h a (List.mem_filter.1 ha).1).2
theorem IsWorst.le {L : List Int} {P : Int → Prop} {x : Int} {m : Nat} (h : IsWorst P (fun a => L.count a) x m) : m ≤ L.length := by
  rcases h with ⟨rfl, _⟩ | ⟨_, _, _, h, _⟩
  · exact Nat.zero_le _
  · have h2 : L.count x = m := h
    rw [← h2]; exact List.count_le_length
theorem count_snoc (L : List Int) (a b : Int) : (L ++ [a]).count b = L.count b + (if a = b then 1 else 0) := by
  rw [List.count_append, List.count_singleton]
  by_cases h : a = b
  · simp [h]
  · simp [h]
theorem recK_of {w : World} {r : Rec} {Ad Ab : Option Addr} {cd cb : Nat} (h : RecAt w r Ad Ab cd cb) : recK.K w r (recCells r Ad Ab cd cb) :=
  ⟨[.int .i64 r.1.1, .int .i64 r.1.2], [.int .i64 r.2.1, .slice Ad r.2.2.1.length cd, .slice Ab r.2.2.2.length cb], rfl, ⟨[.int .i64 r.1.1], [.int .i64 r.1.2], rfl, rfl, rfl⟩, [.int .i64 r.2.1], [.slice Ad r.2.2.1.length cd, .slice Ab r.2.2.2.length cb], rfl, rfl, [.slice Ad r.2.2.1.length cd], [.slice Ab r.2.2.2.length cb], rfl, ⟨Ad, cd, rfl, h.ld, h.deps⟩, ⟨Ab, cb, rfl, h.lb, h.batch⟩⟩
theorem set5_R {α : Type} {d : Kd α} {w : World} {base g : Nat} {e t : TypeId} {ok : Nat → Prop} {v : Value} {xs : List α} {cells : Array Value} (h : d.R e w base ok v xs) (hb : Blk w g t cells) (ht : ∀ q, q ∈ e :: d.E → q ≠ t) (v0 v1 v2 v3 v4 : Value) :
    d.R e (((((w.setCell ⟨g, 0, none⟩ v0).setCell ⟨g, 1, none⟩ v1).setCell ⟨g, 2, none⟩ v2).setCell ⟨g, 3, none⟩ v3).setCell ⟨g, 4, none⟩ v4) base ok v xs :=
  Kd.R_mono (Kd.R_far (Kd.R_far (Kd.R_far (Kd.R_far (Kd.R_far (Kd.R_types h hb ht) (p := ⟨g, 0, none⟩) (fun k hk => hk.2) v0) (p := ⟨g, 1, none⟩) (fun k hk => hk.2) v1) (p := ⟨g, 2, none⟩) (fun k hk => hk.2) v2) (p := ⟨g, 3, none⟩) (fun k hk => hk.2) v3) (p := ⟨g, 4, none⟩) (fun k hk => hk.2) v4) (fun _ hk => hk.1)
theorem set5_Fr {S : Nat → Prop} {a w : World} {g : Nat} (h : Fr S a w) (hg : a.heap.size ≤ g) (v0 v1 v2 v3 v4 : Value) :
    Fr S a (((((w.setCell ⟨g, 0, none⟩ v0).setCell ⟨g, 1, none⟩ v1).setCell ⟨g, 2, none⟩ v2).setCell ⟨g, 3, none⟩ v3).setCell ⟨g, 4, none⟩ v4) :=
  ((((h.setCell (p := ⟨g, 0, none⟩) (.inr hg) v0).setCell (p := ⟨g, 1, none⟩) (.inr hg) v1).setCell (p := ⟨g, 2, none⟩) (.inr hg) v2).setCell (p := ⟨g, 3, none⟩) (.inr hg) v3).setCell (p := ⟨g, 4, none⟩) (.inr hg) v4
set_option maxRecDepth 100000 in
set_option maxHeartbeats 16000000 in
theorem lawNotes28 (A : Option Addr) (n c : Nat) (L : List Ent) (e tw : Int) (w : World) (hC : entK.C w A n L) (hL : EntsGood L) (he : (Lit.int .i64 e).wf = true) (htw0 : 0 ≤ tw) (htw1 : tw ≤ 255) :
    Calls Try.prog 3 #[.slice A n c, .int .i64 e, .int .u8 tw] w fun r w' => r = .returned (.bool true) ∧ Fr (fun _ => False) w w' := by
  have hmx : n ≤ 9223372036854775807 := hC.2.1
  have HLn := Lib.hid (show L.length = n from hC.1)
  have HC := Lib.hid hC
  have HO := Lib.hid hL
  have HE := Lib.hid he
  clear hC hL he
  rcases Nat.lt_or_ge 60 n with hb1 | hb1
  · have t1 : decide ((60 : Int) < (n : Int)) = true := decide_eq_true (by omega)
    have t1' : decide (60 < n) = true := decide_eq_true (by omega)
    go_enter Try.func3, Try.ntmps3
    go_wp2_with fail
    refine (works28 _).mono ?_
    rintro r w1 ⟨rfl, hF1⟩
    go_wp2_with fail
    go_ret
    exact ⟨rfl, hF1⟩
  · have t1 : decide ((60 : Int) < (n : Int)) = false := decide_eq_false (by omega)
    have t1' : decide (60 < n) = false := decide_eq_false (by omega)
    go_enter Try.func3, Try.ntmps3
    go_wp2_with fail
    refine (led_new' w).mono ?_
    rintro r w1 ⟨g0, mc0, S0, rfl, hV, hS, hm, hg, hF⟩
    have HV0 := Lib.hid (show LedRep (w1.alloc (.cells #[] 33)) S0 g0 [] [] from ⟨_, _, _, hV.fr ((Fr.refl (fun _ => False) w1).alloc (.cells #[] 33)) (fun _ _ h => h)⟩)
    have HS0 := Lib.hid (show ∀ b, S0 b → w.heap.size ≤ b from fun b hb => ((hS b).1 hb).elim (fun h => by omega) (fun h => by omega))
    have HF0 := Lib.hid (hF.alloc (.cells #[] 33))
    have HR0 := Lib.hid (Kd.R_mono (Kd.R_lower (R_empty (recF w) 33 w1) hF.size) (ok' := fun b => ¬ S0 b ∧ w.heap.size ≤ b) (fun b hb => ⟨fun h => absurd (hV.lt b h) (by omega), Nat.le_trans hF.size hb⟩))
    clear hV hS hF hm hg t1 t1'
    go_wp2_with fail
    go_loopw [7, 8, 9] (fun v u i wr => ∃ (k g : Nat) (S1 : Nat → Prop), k ≤ n ∧ i = .int .i64 k ∧ v = .pointer (some ⟨g, 0, none⟩) ∧ LedRep wr S1 g (errsE (L.take k)) (keptE (L.take k)) ∧ (∀ b, S1 b → w.heap.size ≤ b) ∧ (recF w).R 33 wr w.heap.size (fun b => ¬ S1 b ∧ w.heap.size ≤ b) u (keptE (L.take k)) ∧ Fr (fun _ => False) w wr ∧ (∀ a ∈ L.take k, a.2.2.2.1.length ≤ 30 ∧ a.2.2.2.2.length ≤ 30)) (fun _ _ i _ => n - (intOf i).toNat)
    case atStart => exact ⟨0, g0, S0, Nat.zero_le _, rfl, rfl, HV0.out, HS0.out, HR0.out, HF0.out, fun a ha => by cases ha⟩
    case round =>
      clear HV0 HS0 HR0 HF0
      obtain ⟨k, g, S, hk9, rfl, rfl, hV, hS, hR, hG, h30⟩ := hrel
      have HV := Lib.hid hV
      have HS := Lib.hid hS
      have HR := Lib.hid hR
      have HG := Lib.hid hG
      have H30 := Lib.hid h30
      have hel : (errsE (L.take k)).length ≤ 60 := by rw [errsE_len, List.length_take]; omega
      have hkl : (keptE (L.take k)).length ≤ 60 := by have := keptE_len (L.take k); rw [List.length_take] at this; omega
      have HEL := Lib.hid hel
      have HKL := Lib.hid hkl
      clear hV hS hR hG h30 hel hkl
      rcases Nat.lt_or_ge k n with hlt | hge
      · obtain ⟨b, off, Ad, Ab, cd, cb, rfl, hRA, z0, z1, z2, z3, z4, z5⟩ := ents_at HC.out hlt
        have HES := Lib.hid (errsE_succ (L := L) (k := k) (by rw [HLn.out]; exact hlt))
        have HKS := Lib.hid (keptE_succ (L := L) (k := k) (by rw [HLn.out]; exact hlt))
        have HGD := Lib.hid (HO.out _ (enx_mem (i := k) (by rw [HLn.out]; exact hlt)))
        have HTK := Lib.hid (show L.take (k + 1) = L.take k ++ [enx L k] from by rw [List.take_succ_eq_append_getElem (by rw [HLn.out]; exact hlt), ← enx_eq])
        obtain ⟨it, hit⟩ : ∃ it, it = enx L k := ⟨_, rfl⟩
        rw [← hit] at HES HKS HGD HTK hRA z0 z1 z2 z3 z4 z5
        have HRA := Lib.hid hRA
        have H0 := Lib.hid z0
        have H1 := Lib.hid z1
        have H2 := Lib.hid z2
        have H3 := Lib.hid z3
        have H4 := Lib.hid z4
        have H5 := Lib.hid z5
        have c4 := HG.out.cell z4 (fun h => h)
        have c5 := HG.out.cell z5 (fun h => h)
        clear hRA z0 z1 z2 z3 z4 z5 hit
        by_cases hs : it.2.2.2.1.length ≤ 30 ∧ it.2.2.2.2.length ≤ 30
        · obtain ⟨hs1, hs2⟩ := hs
          have t2 : decide ((30 : Int) < (it.2.2.2.1.length : Int)) = false := decide_eq_false (by omega)
          have t2' : decide (30 < it.2.2.2.1.length) = false := decide_eq_false (by omega)
          have t3 : decide ((30 : Int) < (it.2.2.2.2.length : Int)) = false := decide_eq_false (by omega)
          have t3' : decide (30 < it.2.2.2.2.length) = false := decide_eq_false (by omega)
          have HSS := Lib.hid (And.intro hs1 hs2)
          have twr : IntKind.i64.wrap tw = tw := wrap64_in _ (by omega) (by omega)
          clear hs1 hs2
          go_upto_if 60 with fail
          go_cut [7] from 32 to 130 (fun v7 wx => ∃ (g' : Nat) (S' : Nat → Prop), v7 = .pointer (some ⟨g', 0, none⟩) ∧ LedRep wx S' g' (errsE (L.take k)) (keptE (L.take k)) ∧ (∀ b, S' b → w.heap.size ≤ b) ∧ (recF w).R 33 wx w.heap.size (fun b => ¬ S' b ∧ w.heap.size ≤ b) u8 (keptE (L.take k)) ∧ Fr (fun _ => False) w wx)
          case first =>
            by_cases hq : (k : Int) = tw
            · have tq : decide ((k : Int) = tw) = true := decide_eq_true hq
              have tqb : ((k : Int) == tw) = true := by simpa using hq
              clear hq
              go_wp2_with fail
              refine (led_twin g S _ _ wr HV.out (Nat.le_trans HEL.out (by omega)) (Nat.le_trans HKL.out (by omega)) (fun r hr => keptE_30 H30.out r hr)).mono ?_
              rintro r w4 ⟨g4, S4, rfl, hV4, hS4, hF4⟩
              have HVo := Lib.hid (HV.out.fr hF4 (fun _ _ h => h))
              have HV4 := Lib.hid hV4
              have HS4 := Lib.hid hS4
              have HF4 := Lib.hid hF4
              clear hV4 hS4 hF4
              go_wp2_with fail
              refine (led_note g S _ _ e ((0, 0), 0, [], []) none none 0 0 w4 HVo.out HE.out (fun w' _ => nilAt w' _ _) (by decide) (by decide) (Nat.le_trans HEL.out (by omega)) (Nat.le_trans HKL.out (by omega))).mono ?_
              rintro r W ⟨rfl, So, _, _, hFo⟩
              have hFw : Fr S wr W := (HF4.out.mono (fun _ _ h => h.elim)).trans' hFo (fun i hi h => h)
              have HV6 := Lib.hid (HV4.out.fr hFo (fun b h4 h => by have h1 := HS4.out b h4; have h2 := HV.out.lt b h; omega))
              have HS6 := Lib.hid (show ∀ b, S4 b → w.heap.size ≤ b from fun b hb => Nat.le_trans HG.out.size (HS4.out b hb))
              have HR6 := Lib.hid (show (recF w).R 33 W w.heap.size (fun b => ¬ S4 b ∧ w.heap.size ≤ b) u8 (keptE (L.take k)) from Kd.R_mono (Kd.R_step (Kd.R_bound HR.out) (fun b hb hl => hFw.block b hl hb.1.1)) (fun b hb => ⟨fun h => by have h1 := HS4.out b h; have h2 := hb.2.2.1; omega, hb.1.2⟩))
              have HG6 := Lib.hid (HG.out.trans' hFw (fun i hi h => by have := HS.out i h; omega))
              clear hFo hFw HVo HV4 HF4 tq tqb twr t2 t2' t3 t3' c4 c5
              go_wp2_with fail
              go_meet
              case rel => exact ⟨g4, S4, rfl, HV6.out, HS6.out, HR6.out, HG6.out⟩
            · have tq : decide ((k : Int) = tw) = false := decide_eq_false hq
              have tqb : ((k : Int) == tw) = false := by simpa using hq
              clear hq
              go_wp2_with fail
              go_meet
              case rel => exact ⟨g, S, rfl, HV.out, HS.out, HR.out, HG.out⟩
          case rest =>
            obtain ⟨g', S', rfl, hV', hS', hR', hG'⟩ := hcut
            replace HV := Lib.hid hV'
            replace HS := Lib.hid hS'
            replace HR := Lib.hid hR'
            replace HG := Lib.hid hG'
            clear hV' hS' hR' hG' c4 c5 t2 t2' t3 t3' twr
            go_wp2_with fail
            rename_i K0 hK0
            have HCi := Lib.hid (HRA.out.fr HG.out).deps
            have HCc := Lib.hid (HRA.out.fr HG.out).batch
            suffices cont : ∀ (v80 v88 : Value) (A1 A2 : Option Addr) (c1 c2 g3 : Nat) (W3 : World), idK.R 29 W3 wc.heap.size (fun k => wc.heap.size ≤ k) (.slice A1 it.2.2.2.1.length c1) it.2.2.2.1 → cmdK.R 54 W3 wc.heap.size (fun k => wc.heap.size ≤ k) (.slice A2 it.2.2.2.2.length c2) it.2.2.2.2 →
                Blk W3 g3 33 #[.int .i64 it.2.1.1, .int .i64 it.2.1.2, .int .i64 it.2.2.1, .slice A1 it.2.2.2.1.length c1, .slice A2 it.2.2.2.2.length c2] → wc.heap.size ≤ g3 → Fr (fun _ => False) wc W3 → K0 { tmps := #[.slice (some ⟨b, off, none⟩) n c, .int .i64 e, .int IntKind.u8 tw, undef, undef, undef, u6, .pointer (some ⟨g', 0, none⟩), u8, .int .i64 (k : Int), u10, .pointer (some ⟨g3, 0, none⟩), u12, undef, undef, undef, undef, undef, undef, undef, undef, undef, undef, undef, undef, undef, .slice (some ⟨b, off, none⟩) n c, .int .i64 (n : Int), .bool false, undef, .pointer (some ⟨g0, 0, none⟩), .slice (some ⟨w1.heap.size, 0, none⟩) 0 0, u32, u33, u34, u35, u36, u37, u38, u39, u40, u41, u42, u43, u44, u45, u46, u47, u48, u49, u50, u51, u52, u53, u54, u55, u56, u57, u58, u59, u60, u61, u62, u63, u64, u65, u66, u67, .slice (some ⟨b, off, none⟩) n c, .int .i64 (k : Int), .pointer (some ⟨b, off + k * 6, none⟩), .pointer (some ⟨b, off + k * 6 + 1, none⟩), .pointer (some ⟨b, off + k * 6 + 1, none⟩), .agg #[.int .i64 it.2.1.1, .int .i64 it.2.1.2], .slice (some ⟨b, off, none⟩) n c, .int .i64 (k : Int), .pointer (some ⟨b, off + k * 6, none⟩), .pointer (some ⟨b, off + k * 6 + 1, none⟩), .pointer (some ⟨b, off + k * 6 + 1 + 2, none⟩), .int .i64 it.2.2.1, v80, .slice (some ⟨b, off, none⟩) n c, .int .i64 (k : Int), .pointer (some ⟨b, off + k * 6, none⟩), .pointer (some ⟨b, off + k * 6 + 1, none⟩), .pointer (some ⟨b, off + k * 6 + 1 + 3, none⟩), .slice Ad it.2.2.2.1.length cd, .slice A1 it.2.2.2.1.length c1, v88, .slice (some ⟨b, off, none⟩) n c, .int .i64 (k : Int), .pointer (some ⟨b, off + k * 6, none⟩), .pointer (some ⟨b, off + k * 6 + 1, none⟩), .pointer (some ⟨b, off + k * 6 + 1 + 4, none⟩), .slice Ab it.2.2.2.2.length cb, .slice A2 it.2.2.2.2.length c2, .agg #[.int .i64 it.2.1.1, .int .i64 it.2.1.2, .int .i64 it.2.2.1, .slice A1 it.2.2.2.1.length c1, .slice A2 it.2.2.2.2.length c2], u97, u98, u99, u100, u101, u102, u103, u104, u105, u106, u107, u108, u109, u110, u111, u112, u113, u114, u115, u116, u117, u118, u119, u120, u121, u122, u123, u124, u125, u126, u127, u128, u129, u130, undef, undef, undef, undef, undef, undef, undef, undef, undef, undef, undef, undef, undef, undef, undef, undef, undef, undef, undef, undef, undef, undef, undef, undef, undef, undef, undef, undef, undef, undef, undef, undef, undef, undef, undef, undef, undef, undef, undef, undef, undef, undef, undef, undef, undef, undef, undef, undef, undef, undef, undef, undef, undef, undef, undef, undef, undef, undef, undef, undef, undef, undef, undef, undef, undef, undef, undef, undef, undef, undef, undef, undef, undef, undef, undef, undef, undef, undef, undef, undef, undef, undef, undef, undef, undef, undef, undef, undef, undef, undef, undef, undef, undef, undef, undef, undef, undef, undef, undef, undef, undef, undef, undef, undef, undef, undef, undef, undef, undef, undef, undef, undef, undef, undef, undef, undef, undef, undef, undef, undef, undef, undef, undef, undef, undef, undef, undef, undef, undef, undef, undef, undef, undef, undef, undef, undef, undef, undef, undef, undef, undef, undef, undef, undef, undef, undef, undef, undef, undef, undef, undef, undef, undef, undef, undef, undef, undef, undef, undef, undef, undef, undef, undef, undef, undef, undef, undef, undef, undef, undef, undef, undef, undef, undef], defers := [] } W3 by
              obtain ⟨St, hSt⟩ : ∃ St : World → Prop, St = Fr (fun _ => False) wc := ⟨_, rfl⟩
              have HT := Lib.hid (show ∀ w', Fr (fun _ => False) wc w' → At St w' from fun w' h => by unfold At; rw [hSt]; exact h)
              have lift : ∀ (q : Addr) (u : Value), w.cell? q = some u → ∀ w', At St w' → w'.cell? q = some u := fun q u hq w' h => by replace h := h.out; rw [hSt] at h; exact h.cell (HG.out.cell hq (fun h => h)) (fun h => h)
              have l1 := lift _ _ H1.out
              have l2 := lift _ _ H2.out
              have l3 := lift _ _ H3.out
              have l4 := lift _ _ H4.out
              have l5 := lift _ _ H5.out
              have hFr := (Fr.refl (fun _ => False) wc).drew
              have hT0 := HT.out _ hFr
              have hRi := Kd.R_nil idK 29 wc.drew wc.heap.size (fun k => wc.heap.size ≤ k)
              have hRc := Kd.R_nil cmdK 54 wc.drew wc.heap.size (fun k => wc.heap.size ≤ k)
              clear hSt lift
              refine rt_start [30] (At St) 31 (by as_aux_lemma => kernel_rfl) rfl ?_
              generalize wc.drew = Wn at hFr hRi hRc hT0 ⊢
              refine rt_free 0 (v := ?_) rfl (by as_aux_lemma => kernel_rfl) (by as_aux_lemma => kernel_rfl) (by as_aux_lemma => kernel_rfl) (by as_aux_lemma => kernel_rfl) (fun _ _ _ h => h) (by rfl) (fun _ => by first | assumption | exact HS0 _ rfl | exact HT.out _ (by repeat (first | exact Fr.refl _ _ | apply Fr.drew | refine Fr.alloc ?_ _))) ?_ ?_
              rotate_left 1
              · intro w; go_simp <;> with_reducible rfl
              try simp only [Act.put, List.setIfInBounds_toArray, List.set_cons_zero, List.set_cons_succ]
              refine rt_free 1 (v := ?_) rfl (by as_aux_lemma => kernel_rfl) (by as_aux_lemma => kernel_rfl) (by as_aux_lemma => kernel_rfl) (by as_aux_lemma => kernel_rfl) (fun _ _ _ h => h) (by rfl) (fun _ => by first | assumption | exact HS0 _ rfl | exact HT.out _ (by repeat (first | exact Fr.refl _ _ | apply Fr.drew | refine Fr.alloc ?_ _))) ?_ ?_
              rotate_left 1
              · intro w; go_simp <;> with_reducible rfl
              try simp only [Act.put, List.setIfInBounds_toArray, List.set_cons_zero, List.set_cons_succ]
              refine rt_free 2 (v := ?_) rfl (by as_aux_lemma => kernel_rfl) (by as_aux_lemma => kernel_rfl) (by as_aux_lemma => kernel_rfl) (by as_aux_lemma => kernel_rfl) (fun _ _ _ h => h) (by rfl) (fun _ => by first | assumption | exact HS0 _ rfl | exact HT.out _ (by repeat (first | exact Fr.refl _ _ | apply Fr.drew | refine Fr.alloc ?_ _))) ?_ ?_
              rotate_left 1
              · intro w; go_simp <;> with_reducible rfl
              try simp only [Act.put, List.setIfInBounds_toArray, List.set_cons_zero, List.set_cons_succ]
              refine rt_free 3 (v := ?_) rfl (by as_aux_lemma => kernel_rfl) (by as_aux_lemma => kernel_rfl) (by as_aux_lemma => kernel_rfl) (by as_aux_lemma => kernel_rfl) (fun _ _ _ h => h) (by rfl) (fun _ => by first | assumption | exact HS0 _ rfl | exact HT.out _ (by repeat (first | exact Fr.refl _ _ | apply Fr.drew | refine Fr.alloc ?_ _))) ?_ ?_
              rotate_left 1
              · intro w; go_simp <;> with_reducible rfl
              try simp only [Act.put, List.setIfInBounds_toArray, List.set_cons_zero, List.set_cons_succ]
              refine rt_free 4 (v := ?_) rfl (by as_aux_lemma => kernel_rfl) (by as_aux_lemma => kernel_rfl) (by as_aux_lemma => kernel_rfl) (by as_aux_lemma => kernel_rfl) (fun _ _ _ h => h) (by rfl) (fun _ => by first | assumption | exact HS0 _ rfl | exact HT.out _ (by repeat (first | exact Fr.refl _ _ | apply Fr.drew | refine Fr.alloc ?_ _))) ?_ ?_
              rotate_left 1
              · intro w; go_simp <;> with_reducible rfl
              try simp only [Act.put, List.setIfInBounds_toArray, List.set_cons_zero, List.set_cons_succ]
              refine rt_take 5 (v := ?_) rfl (by as_aux_lemma => kernel_rfl) (by as_aux_lemma => kernel_rfl) (by as_aux_lemma => kernel_rfl) (by as_aux_lemma => kernel_rfl) (fun _ _ _ h => h) (by rfl) (by first | assumption | exact HS0 _ rfl | exact HT.out _ (by repeat (first | exact Fr.refl _ _ | apply Fr.drew | refine Fr.alloc ?_ _))) ?_ ?_
              rotate_left 1
              · intro w hSw; go_simp <;> with_reducible rfl
              try simp only [Act.put, List.setIfInBounds_toArray, List.set_cons_zero, List.set_cons_succ]
              refine rt_free 6 (v := ?_) rfl (by as_aux_lemma => kernel_rfl) (by as_aux_lemma => kernel_rfl) (by as_aux_lemma => kernel_rfl) (by as_aux_lemma => kernel_rfl) (fun _ _ _ h => h) (by rfl) (fun _ => by first | assumption | exact HS0 _ rfl | exact HT.out _ (by repeat (first | exact Fr.refl _ _ | apply Fr.drew | refine Fr.alloc ?_ _))) ?_ ?_
              rotate_left 1
              · intro w; go_simp <;> with_reducible rfl
              try simp only [Act.put, List.setIfInBounds_toArray, List.set_cons_zero, List.set_cons_succ]
              refine rt_free 7 (v := ?_) rfl (by as_aux_lemma => kernel_rfl) (by as_aux_lemma => kernel_rfl) (by as_aux_lemma => kernel_rfl) (by as_aux_lemma => kernel_rfl) (fun _ _ _ h => h) (by rfl) (fun _ => by first | assumption | exact HS0 _ rfl | exact HT.out _ (by repeat (first | exact Fr.refl _ _ | apply Fr.drew | refine Fr.alloc ?_ _))) ?_ ?_
              rotate_left 1
              · intro w; go_simp <;> with_reducible rfl
              try simp only [Act.put, List.setIfInBounds_toArray, List.set_cons_zero, List.set_cons_succ]
              refine rt_free 8 (v := ?_) rfl (by as_aux_lemma => kernel_rfl) (by as_aux_lemma => kernel_rfl) (by as_aux_lemma => kernel_rfl) (by as_aux_lemma => kernel_rfl) (fun _ _ _ h => h) (by rfl) (fun _ => by first | assumption | exact HS0 _ rfl | exact HT.out _ (by repeat (first | exact Fr.refl _ _ | apply Fr.drew | refine Fr.alloc ?_ _))) ?_ ?_
              rotate_left 1
              · intro w; go_simp <;> with_reducible rfl
              try simp only [Act.put, List.setIfInBounds_toArray, List.set_cons_zero, List.set_cons_succ]
              refine rt_free 9 (v := ?_) rfl (by as_aux_lemma => kernel_rfl) (by as_aux_lemma => kernel_rfl) (by as_aux_lemma => kernel_rfl) (by as_aux_lemma => kernel_rfl) (fun _ _ _ h => h) (by rfl) (fun _ => by first | assumption | exact HS0 _ rfl | exact HT.out _ (by repeat (first | exact Fr.refl _ _ | apply Fr.drew | refine Fr.alloc ?_ _))) ?_ ?_
              rotate_left 1
              · intro w; go_simp <;> with_reducible rfl
              try simp only [Act.put, List.setIfInBounds_toArray, List.set_cons_zero, List.set_cons_succ]
              refine rt_free 10 (v := ?_) rfl (by as_aux_lemma => kernel_rfl) (by as_aux_lemma => kernel_rfl) (by as_aux_lemma => kernel_rfl) (by as_aux_lemma => kernel_rfl) (fun _ _ _ h => h) (by rfl) (fun _ => by first | assumption | exact HS0 _ rfl | exact HT.out _ (by repeat (first | exact Fr.refl _ _ | apply Fr.drew | refine Fr.alloc ?_ _))) ?_ ?_
              rotate_left 1
              · intro w; go_simp <;> with_reducible rfl
              try simp only [Act.put, List.setIfInBounds_toArray, List.set_cons_zero, List.set_cons_succ]
              refine rt_take 11 (v := ?_) rfl (by as_aux_lemma => kernel_rfl) (by as_aux_lemma => kernel_rfl) (by as_aux_lemma => kernel_rfl) (by as_aux_lemma => kernel_rfl) (fun _ _ _ h => h) (by rfl) (by first | assumption | exact HS0 _ rfl | exact HT.out _ (by repeat (first | exact Fr.refl _ _ | apply Fr.drew | refine Fr.alloc ?_ _))) ?_ ?_
              rotate_left 1
              · intro w hSw; go_simp <;> with_reducible rfl
              try simp only [Act.put, List.setIfInBounds_toArray, List.set_cons_zero, List.set_cons_succ]
              refine rt_free 13 (v := ?_) rfl (by as_aux_lemma => kernel_rfl) (by as_aux_lemma => kernel_rfl) (by as_aux_lemma => kernel_rfl) (by as_aux_lemma => kernel_rfl) (fun _ _ _ h => h) (by rfl) (fun _ => by first | assumption | exact HS0 _ rfl | exact HT.out _ (by repeat (first | exact Fr.refl _ _ | apply Fr.drew | refine Fr.alloc ?_ _))) ?_ ?_
              rotate_left 1
              · intro w; go_simp <;> with_reducible rfl
              try simp only [Act.put, List.setIfInBounds_toArray, List.set_cons_zero, List.set_cons_succ]
              refine rt_free 14 (v := ?_) rfl (by as_aux_lemma => kernel_rfl) (by as_aux_lemma => kernel_rfl) (by as_aux_lemma => kernel_rfl) (by as_aux_lemma => kernel_rfl) (fun _ _ _ h => h) (by rfl) (fun _ => by first | assumption | exact HS0 _ rfl | exact HT.out _ (by repeat (first | exact Fr.refl _ _ | apply Fr.drew | refine Fr.alloc ?_ _))) ?_ ?_
              rotate_left 1
              · intro w; go_simp <;> with_reducible rfl
              try simp only [Act.put, List.setIfInBounds_toArray, List.set_cons_zero, List.set_cons_succ]
              refine rt_free 15 (v := ?_) rfl (by as_aux_lemma => kernel_rfl) (by as_aux_lemma => kernel_rfl) (by as_aux_lemma => kernel_rfl) (by as_aux_lemma => kernel_rfl) (fun _ _ _ h => h) (by rfl) (fun _ => by first | assumption | exact HS0 _ rfl | exact HT.out _ (by repeat (first | exact Fr.refl _ _ | apply Fr.drew | refine Fr.alloc ?_ _))) ?_ ?_
              rotate_left 1
              · intro w; go_simp <;> with_reducible rfl
              try simp only [Act.put, List.setIfInBounds_toArray, List.set_cons_zero, List.set_cons_succ]
              refine rt_free 16 (v := ?_) rfl (by as_aux_lemma => kernel_rfl) (by as_aux_lemma => kernel_rfl) (by as_aux_lemma => kernel_rfl) (by as_aux_lemma => kernel_rfl) (fun _ _ _ h => h) (by rfl) (fun _ => by first | assumption | exact HS0 _ rfl | exact HT.out _ (by repeat (first | exact Fr.refl _ _ | apply Fr.drew | refine Fr.alloc ?_ _))) ?_ ?_
              rotate_left 1
              · intro w; go_simp <;> with_reducible rfl
              try simp only [Act.put, List.setIfInBounds_toArray, List.set_cons_zero, List.set_cons_succ]
              refine rt_free 17 (v := ?_) rfl (by as_aux_lemma => kernel_rfl) (by as_aux_lemma => kernel_rfl) (by as_aux_lemma => kernel_rfl) (by as_aux_lemma => kernel_rfl) (fun _ _ _ h => h) (by rfl) (fun _ => by first | assumption | exact HS0 _ rfl | exact HT.out _ (by repeat (first | exact Fr.refl _ _ | apply Fr.drew | refine Fr.alloc ?_ _))) ?_ ?_
              rotate_left 1
              · intro w; go_simp <;> with_reducible rfl
              try simp only [Act.put, List.setIfInBounds_toArray, List.set_cons_zero, List.set_cons_succ]
              refine rt_take 18 (v := ?_) rfl (by as_aux_lemma => kernel_rfl) (by as_aux_lemma => kernel_rfl) (by as_aux_lemma => kernel_rfl) (by as_aux_lemma => kernel_rfl) (fun _ _ _ h => h) (by rfl) (by first | assumption | exact HS0 _ rfl | exact HT.out _ (by repeat (first | exact Fr.refl _ _ | apply Fr.drew | refine Fr.alloc ?_ _))) ?_ ?_
              rotate_left 1
              · intro w hSw; go_simp <;> with_reducible rfl
              try simp only [Act.put, List.setIfInBounds_toArray, List.set_cons_zero, List.set_cons_succ]
              refine rt_free 21 (v := ?_) rfl (by as_aux_lemma => kernel_rfl) (by as_aux_lemma => kernel_rfl) (by as_aux_lemma => kernel_rfl) (by as_aux_lemma => kernel_rfl) (fun _ _ _ h => h) (by rfl) (fun _ => by first | assumption | exact HS0 _ rfl | exact HT.out _ (by repeat (first | exact Fr.refl _ _ | apply Fr.drew | refine Fr.alloc ?_ _))) ?_ ?_
              rotate_left 1
              · intro w; go_simp <;> with_reducible rfl
              try simp only [Act.put, List.setIfInBounds_toArray, List.set_cons_zero, List.set_cons_succ]
              refine rt_free 22 (v := ?_) rfl (by as_aux_lemma => kernel_rfl) (by as_aux_lemma => kernel_rfl) (by as_aux_lemma => kernel_rfl) (by as_aux_lemma => kernel_rfl) (fun _ _ _ h => h) (by rfl) (fun _ => by first | assumption | exact HS0 _ rfl | exact HT.out _ (by repeat (first | exact Fr.refl _ _ | apply Fr.drew | refine Fr.alloc ?_ _))) ?_ ?_
              rotate_left 1
              · intro w; go_simp <;> with_reducible rfl
              try simp only [Act.put, List.setIfInBounds_toArray, List.set_cons_zero, List.set_cons_succ]
              refine rt_free 23 (v := ?_) rfl (by as_aux_lemma => kernel_rfl) (by as_aux_lemma => kernel_rfl) (by as_aux_lemma => kernel_rfl) (by as_aux_lemma => kernel_rfl) (fun _ _ _ h => h) (by rfl) (fun _ => by first | assumption | exact HS0 _ rfl | exact HT.out _ (by repeat (first | exact Fr.refl _ _ | apply Fr.drew | refine Fr.alloc ?_ _))) ?_ ?_
              rotate_left 1
              · intro w; go_simp <;> with_reducible rfl
              try simp only [Act.put, List.setIfInBounds_toArray, List.set_cons_zero, List.set_cons_succ]
              refine rt_free 24 (v := ?_) rfl (by as_aux_lemma => kernel_rfl) (by as_aux_lemma => kernel_rfl) (by as_aux_lemma => kernel_rfl) (by as_aux_lemma => kernel_rfl) (fun _ _ _ h => h) (by rfl) (fun _ => by first | assumption | exact HS0 _ rfl | exact HT.out _ (by repeat (first | exact Fr.refl _ _ | apply Fr.drew | refine Fr.alloc ?_ _))) ?_ ?_
              rotate_left 1
              · intro w; go_simp <;> with_reducible rfl
              try simp only [Act.put, List.setIfInBounds_toArray, List.set_cons_zero, List.set_cons_succ]
              refine rt_free 25 (v := ?_) rfl (by as_aux_lemma => kernel_rfl) (by as_aux_lemma => kernel_rfl) (by as_aux_lemma => kernel_rfl) (by as_aux_lemma => kernel_rfl) (fun _ _ _ h => h) (by rfl) (fun _ => by first | assumption | exact HS0 _ rfl | exact HT.out _ (by repeat (first | exact Fr.refl _ _ | apply Fr.drew | refine Fr.alloc ?_ _))) ?_ ?_
              rotate_left 1
              · intro w; go_simp <;> with_reducible rfl
              try simp only [Act.put, List.setIfInBounds_toArray, List.set_cons_zero, List.set_cons_succ]
              refine rt_take 26 (v := ?_) rfl (by as_aux_lemma => kernel_rfl) (by as_aux_lemma => kernel_rfl) (by as_aux_lemma => kernel_rfl) (by as_aux_lemma => kernel_rfl) (fun _ _ _ h => h) (by rfl) (by first | assumption | exact HS0 _ rfl | exact HT.out _ (by repeat (first | exact Fr.refl _ _ | apply Fr.drew | refine Fr.alloc ?_ _))) ?_ ?_
              rotate_left 1
              · intro w hSw; go_simp <;> with_reducible rfl
              try simp only [Act.put, List.setIfInBounds_toArray, List.set_cons_zero, List.set_cons_succ]
              refine rt_ready [12, 20, 29] (by as_aux_lemma => kernel_rfl) (by simp) ?_
              refine AllNextt.cons rfl (fun K hK => ?_) ?_
              · skip
                go_simp
                have hn := Kd.R_mono (Kd.R_lower (R_empty idK 29 _) hFr.size) (ok' := fun k => wc.heap.size ≤ k) (fun k hk => Nat.le_trans hFr.size hk)
                replace hRc := Kd.R_alloc hRc (.cells #[] 29)
                try replace hBg := Blk.alloc hBg (.cells #[] 29)
                replace hFr := hFr.alloc (.cells #[] 29)
                clear hRi
                have hRi := hn
                clear hn
                generalize Wn.heap.size = gi at hRi ⊢
                first | generalize World.alloc _ _ = Wn at hRi hRc hBg hFr ⊢ | generalize World.alloc _ _ = Wn at hRi hRc hFr ⊢
                have hTn := HT.out _ hFr
                refine hK.out (At St) _ _ (fun _ h => h) (fun _ => by (assumption)) ?_
                clear hK K
                try simp only [Act.put, List.setIfInBounds_toArray, List.set_cons_zero, List.set_cons_succ]
                refine rt_ready [19, 20, 29] (by as_aux_lemma => kernel_rfl) (by simp) ?_
                refine AllNextt.cons rfl (fun K hK => ?_) ?_
                · skip
                  obtain ⟨Ai, ci, Wn, hr, hRn, hgn⟩ := app_flat (P := Try.prog) idFlat (xs := it.2.2.2.1) (n := it.2.2.2.1.length) (c := cd) 30 30 _ 16 Try.underlying30 info_id rfl (by decide) (by decide) hRi (Kd.C_below HCi.out (hFr.below (fun _ _ h => h))) (fun k hk => Nat.le_trans hFr.size hk) hFr.size (by have := HSS.out.1; omega)
                  refine step_builtin2 rfl rfl rfl rfl (bi_append hr) ?_
                  replace hRc := Kd.R_over' hRc (Kd.R_typed hRi) (by decide) hgn
                  try replace hBg := blk_grown hBg hgn (Kd.R_ne hRi hBg (by decide))
                  replace hFr := hFr.trans' (Fr.of_grown hgn) (fun i hi h => by have := Kd.R_base hRi i h.symm; omega)
                  clear hRi
                  have hRi := hRn
                  clear hRn
                  have hTn := HT.out _ hFr
                  refine hK.out (At St) _ _ (fun _ h => h) (fun _ => by (assumption)) ?_
                  clear hK K
                  try simp only [Act.put, List.setIfInBounds_toArray, List.set_cons_zero, List.set_cons_succ]
                  refine rt_ready [20, 29] (by as_aux_lemma => kernel_rfl) (by simp) ?_
                  refine AllNextt.cons rfl (fun K hK => ?_) ?_
                  · skip
                    go_simp
                    have hn := Kd.R_mono (Kd.R_lower (R_empty cmdK 54 _) hFr.size) (ok' := fun k => wc.heap.size ≤ k) (fun k hk => Nat.le_trans hFr.size hk)
                    replace hRi := Kd.R_alloc hRi (.cells #[] 54)
                    try replace hBg := Blk.alloc hBg (.cells #[] 54)
                    replace hFr := hFr.alloc (.cells #[] 54)
                    clear hRc
                    have hRc := hn
                    clear hn
                    generalize Wn.heap.size = gi at hRc ⊢
                    first | generalize World.alloc _ _ = Wn at hRi hRc hBg hFr ⊢ | generalize World.alloc _ _ = Wn at hRi hRc hFr ⊢
                    have hTn := HT.out _ hFr
                    refine hK.out (At St) _ _ (fun _ h => h) (fun _ => by (assumption)) ?_
                    clear hK K
                    try simp only [Act.put, List.setIfInBounds_toArray, List.set_cons_zero, List.set_cons_succ]
                    refine rt_ready [27, 29] (by as_aux_lemma => kernel_rfl) (by simp) ?_
                    refine AllNextt.cons rfl (fun K hK => ?_) ?_
                    · skip
                      obtain ⟨Ac, cc, Wn, hr, hRn, hgn⟩ := app_flat (P := Try.prog) cmdFlat (xs := it.2.2.2.2) (n := it.2.2.2.2.length) (c := cb) 31 31 _ 32 Try.underlying31 info_cmd rfl (by decide) (by decide) hRc (Kd.C_below HCc.out (hFr.below (fun _ _ h => h))) (fun k hk => Nat.le_trans hFr.size hk) hFr.size (by have := HSS.out.2; omega)
                      refine step_builtin2 rfl rfl rfl rfl (bi_append hr) ?_
                      replace hRi := Kd.R_over' hRi (Kd.R_typed hRc) (by decide) hgn
                      try replace hBg := blk_grown hBg hgn (Kd.R_ne hRc hBg (by decide))
                      replace hFr := hFr.trans' (Fr.of_grown hgn) (fun i hi h => by have := Kd.R_base hRc i h.symm; omega)
                      clear hRc
                      have hRc := hRn
                      clear hRn
                      have hTn := HT.out _ hFr
                      refine hK.out (At St) _ _ (fun _ h => h) (fun _ => by (assumption)) ?_
                      clear hK K
                      try simp only [Act.put, List.setIfInBounds_toArray, List.set_cons_zero, List.set_cons_succ]
                      refine rt_free 28 (v := ?_) rfl (by as_aux_lemma => kernel_rfl) (by as_aux_lemma => kernel_rfl) (by as_aux_lemma => kernel_rfl) (by as_aux_lemma => kernel_rfl) (fun _ _ _ h => h) (by rfl) (fun _ => by first | assumption | exact HS0 _ rfl | exact HT.out _ (by repeat (first | exact Fr.refl _ _ | apply Fr.drew | refine Fr.alloc ?_ _))) ?_ ?_
                      rotate_left 1
                      · intro w; go_simp <;> with_reducible rfl
                      try simp only [Act.put, List.setIfInBounds_toArray, List.set_cons_zero, List.set_cons_succ]
                      refine rt_one 29 rfl (by as_aux_lemma => kernel_rfl) (fun K hK => ?_)
                      go_simp
                      have hg3 := hFr.size
                      have hBg := Blk.new Wn 33 #[.int .i64 0, .int .i64 0, .int .i64 0, .slice none 0 0, .slice none 0 0]
                      replace hRi := Kd.R_alloc hRi (.cells #[.int .i64 0, .int .i64 0, .int .i64 0, .slice none 0 0, .slice none 0 0] 33)
                      replace hRc := Kd.R_alloc hRc (.cells #[.int .i64 0, .int .i64 0, .int .i64 0, .slice none 0 0, .slice none 0 0] 33)
                      replace hFr := hFr.alloc (.cells #[.int .i64 0, .int .i64 0, .int .i64 0, .slice none 0 0, .slice none 0 0] 33)
                      generalize Wn.heap.size = g3 at hBg hg3 ⊢
                      generalize World.alloc _ _ = Wn at hRi hRc hBg hFr ⊢
                      have hTn := HT.out _ hFr
                      refine hK.out (At St) _ _ (fun _ h => h) (fun _ => by (assumption)) ?_
                      clear hK K
                      try simp only [Act.put, List.setIfInBounds_toArray, List.set_cons_zero, List.set_cons_succ]
                      refine rt_one 30 rfl (by as_aux_lemma => kernel_rfl) (fun K hK => ?_)
                      have b0 := Blk.cell hBg 0
                      have b1 := Blk.cell hBg 1
                      have b2 := Blk.cell hBg 2
                      have b3 := Blk.cell hBg 3
                      have b4 := Blk.cell hBg 4
                      have bf := Blk.frozen hBg
                      simp only [List.getElem?_toArray, List.getElem?_cons_zero, List.getElem?_cons_succ] at b0 b1 b2 b3 b4
                      go_simp
                      replace hRi := set5_R hRi hBg (by decide) (.int .i64 it.2.1.1) (.int .i64 it.2.1.2) (.int .i64 it.2.2.1) (.slice Ai it.2.2.2.1.length ci) (.slice Ac it.2.2.2.2.length cc)
                      replace hRc := set5_R hRc hBg (by decide) (.int .i64 it.2.1.1) (.int .i64 it.2.1.2) (.int .i64 it.2.2.1) (.slice Ai it.2.2.2.1.length ci) (.slice Ac it.2.2.2.2.length cc)
                      replace hFr := set5_Fr hFr hg3 (.int .i64 it.2.1.1) (.int .i64 it.2.1.2) (.int .i64 it.2.2.1) (.slice Ai it.2.2.2.1.length ci) (.slice Ac it.2.2.2.2.length cc)
                      replace hBg := set5 hBg (v0 := .int .i64 it.2.1.1) (v1 := .int .i64 it.2.1.2) (v2 := .int .i64 it.2.2.1) (v3 := .slice Ai it.2.2.2.1.length ci) (v4 := .slice Ac it.2.2.2.2.length cc)
                      clear b0 b1 b2 b3 b4 bf
                      generalize World.setCell _ _ _ = Wn at hRi hRc hBg hFr ⊢
                      refine hK.out (At St) _ _ (fun _ h => h) (late_abs (by as_aux_lemma => kernel_rfl)) ?_
                      clear hK K
                      try simp only [Act.put, List.setIfInBounds_toArray, List.set_cons_zero, List.set_cons_succ]
                      refine rt_done (by as_aux_lemma => kernel_rfl) ?_
                      all_goals exact cont _ _ _ _ _ _ _ _ hRi hRc hBg hg3 hFr
                    refine AllNextt.cons rfl (fun K hK => ?_) ?_
                    · skip
                      go_simp
                      have hg3 := hFr.size
                      have hBg := Blk.new Wn 33 #[.int .i64 0, .int .i64 0, .int .i64 0, .slice none 0 0, .slice none 0 0]
                      replace hRi := Kd.R_alloc hRi (.cells #[.int .i64 0, .int .i64 0, .int .i64 0, .slice none 0 0, .slice none 0 0] 33)
                      replace hRc := Kd.R_alloc hRc (.cells #[.int .i64 0, .int .i64 0, .int .i64 0, .slice none 0 0, .slice none 0 0] 33)
                      replace hFr := hFr.alloc (.cells #[.int .i64 0, .int .i64 0, .int .i64 0, .slice none 0 0, .slice none 0 0] 33)
                      generalize Wn.heap.size = g3 at hBg hg3 ⊢
                      generalize World.alloc _ _ = Wn at hRi hRc hBg hFr ⊢
                      have hTn := HT.out _ hFr
                      refine hK.out (At St) _ _ (fun _ h => h) (fun _ => by (assumption)) ?_
                      clear hK K
                      try simp only [Act.put, List.setIfInBounds_toArray, List.set_cons_zero, List.set_cons_succ]
                      refine rt_one 27 rfl (by as_aux_lemma => kernel_rfl) (fun K hK => ?_)
                      obtain ⟨Ac, cc, Wn, hr, hRn, hgn⟩ := app_flat (P := Try.prog) cmdFlat (xs := it.2.2.2.2) (n := it.2.2.2.2.length) (c := cb) 31 31 _ 32 Try.underlying31 info_cmd rfl (by decide) (by decide) hRc (Kd.C_below HCc.out (hFr.below (fun _ _ h => h))) (fun k hk => Nat.le_trans hFr.size hk) hFr.size (by have := HSS.out.2; omega)
                      refine step_builtin2 rfl rfl rfl rfl (bi_append hr) ?_
                      replace hRi := Kd.R_over' hRi (Kd.R_typed hRc) (by decide) hgn
                      try replace hBg := blk_grown hBg hgn (Kd.R_ne hRc hBg (by decide))
                      replace hFr := hFr.trans' (Fr.of_grown hgn) (fun i hi h => by have := Kd.R_base hRc i h.symm; omega)
                      clear hRc
                      have hRc := hRn
                      clear hRn
                      have hTn := HT.out _ hFr
                      refine hK.out (At St) _ _ (fun _ h => h) (fun _ => by (assumption)) ?_
                      clear hK K
                      try simp only [Act.put, List.setIfInBounds_toArray, List.set_cons_zero, List.set_cons_succ]
                      refine rt_free 28 (v := ?_) rfl (by as_aux_lemma => kernel_rfl) (by as_aux_lemma => kernel_rfl) (by as_aux_lemma => kernel_rfl) (by as_aux_lemma => kernel_rfl) (fun _ _ _ h => h) (by rfl) (fun _ => by first | assumption | exact HS0 _ rfl | exact HT.out _ (by repeat (first | exact Fr.refl _ _ | apply Fr.drew | refine Fr.alloc ?_ _))) ?_ ?_
                      rotate_left 1
                      · intro w; go_simp <;> with_reducible rfl
                      try simp only [Act.put, List.setIfInBounds_toArray, List.set_cons_zero, List.set_cons_succ]
                      refine rt_one 30 rfl (by as_aux_lemma => kernel_rfl) (fun K hK => ?_)
                      have b0 := Blk.cell hBg 0
                      have b1 := Blk.cell hBg 1
                      have b2 := Blk.cell hBg 2
                      have b3 := Blk.cell hBg 3
                      have b4 := Blk.cell hBg 4
                      have bf := Blk.frozen hBg
                      simp only [List.getElem?_toArray, List.getElem?_cons_zero, List.getElem?_cons_succ] at b0 b1 b2 b3 b4
                      go_simp
                      replace hRi := set5_R hRi hBg (by decide) (.int .i64 it.2.1.1) (.int .i64 it.2.1.2) (.int .i64 it.2.2.1) (.slice Ai it.2.2.2.1.length ci) (.slice Ac it.2.2.2.2.length cc)
                      replace hRc := set5_R hRc hBg (by decide) (.int .i64 it.2.1.1) (.int .i64 it.2.1.2) (.int .i64 it.2.2.1) (.slice Ai it.2.2.2.1.length ci) (.slice Ac it.2.2.2.2.length cc)
                      replace hFr := set5_Fr hFr hg3 (.int .i64 it.2.1.1) (.int .i64 it.2.1.2) (.int .i64 it.2.2.1) (.slice Ai it.2.2.2.1.length ci) (.slice Ac it.2.2.2.2.length cc)
                      replace hBg := set5 hBg (v0 := .int .i64 it.2.1.1) (v1 := .int .i64 it.2.1.2) (v2 := .int .i64 it.2.2.1) (v3 := .slice Ai it.2.2.2.1.length ci) (v4 := .slice Ac it.2.2.2.2.length cc)
                      clear b0 b1 b2 b3 b4 bf
                      generalize World.setCell _ _ _ = Wn at hRi hRc hBg hFr ⊢
                      refine hK.out (At St) _ _ (fun _ h => h) (late_abs (by as_aux_lemma => kernel_rfl)) ?_
                      clear hK K
                      try simp only [Act.put, List.setIfInBounds_toArray, List.set_cons_zero, List.set_cons_succ]
                      refine rt_done (by as_aux_lemma => kernel_rfl) ?_
                      all_goals exact cont _ _ _ _ _ _ _ _ hRi hRc hBg hg3 hFr
                    exact AllNextt.nil
                  refine AllNextt.cons rfl (fun K hK => ?_) ?_
                  · skip
                    go_simp
                    have hg3 := hFr.size
                    have hBg := Blk.new Wn 33 #[.int .i64 0, .int .i64 0, .int .i64 0, .slice none 0 0, .slice none 0 0]
                    replace hRi := Kd.R_alloc hRi (.cells #[.int .i64 0, .int .i64 0, .int .i64 0, .slice none 0 0, .slice none 0 0] 33)
                    replace hRc := Kd.R_alloc hRc (.cells #[.int .i64 0, .int .i64 0, .int .i64 0, .slice none 0 0, .slice none 0 0] 33)
                    replace hFr := hFr.alloc (.cells #[.int .i64 0, .int .i64 0, .int .i64 0, .slice none 0 0, .slice none 0 0] 33)
                    generalize Wn.heap.size = g3 at hBg hg3 ⊢
                    generalize World.alloc _ _ = Wn at hRi hRc hBg hFr ⊢
                    have hTn := HT.out _ hFr
                    refine hK.out (At St) _ _ (fun _ h => h) (fun _ => by (assumption)) ?_
                    clear hK K
                    try simp only [Act.put, List.setIfInBounds_toArray, List.set_cons_zero, List.set_cons_succ]
                    refine rt_one 20 rfl (by as_aux_lemma => kernel_rfl) (fun K hK => ?_)
                    go_simp
                    have hn := Kd.R_mono (Kd.R_lower (R_empty cmdK 54 _) hFr.size) (ok' := fun k => wc.heap.size ≤ k) (fun k hk => Nat.le_trans hFr.size hk)
                    replace hRi := Kd.R_alloc hRi (.cells #[] 54)
                    try replace hBg := Blk.alloc hBg (.cells #[] 54)
                    replace hFr := hFr.alloc (.cells #[] 54)
                    clear hRc
                    have hRc := hn
                    clear hn
                    generalize Wn.heap.size = gi at hRc ⊢
                    first | generalize World.alloc _ _ = Wn at hRi hRc hBg hFr ⊢ | generalize World.alloc _ _ = Wn at hRi hRc hFr ⊢
                    have hTn := HT.out _ hFr
                    refine hK.out (At St) _ _ (fun _ h => h) (fun _ => by (assumption)) ?_
                    clear hK K
                    try simp only [Act.put, List.setIfInBounds_toArray, List.set_cons_zero, List.set_cons_succ]
                    refine rt_one 27 rfl (by as_aux_lemma => kernel_rfl) (fun K hK => ?_)
                    obtain ⟨Ac, cc, Wn, hr, hRn, hgn⟩ := app_flat (P := Try.prog) cmdFlat (xs := it.2.2.2.2) (n := it.2.2.2.2.length) (c := cb) 31 31 _ 32 Try.underlying31 info_cmd rfl (by decide) (by decide) hRc (Kd.C_below HCc.out (hFr.below (fun _ _ h => h))) (fun k hk => Nat.le_trans hFr.size hk) hFr.size (by have := HSS.out.2; omega)
                    refine step_builtin2 rfl rfl rfl rfl (bi_append hr) ?_
                    replace hRi := Kd.R_over' hRi (Kd.R_typed hRc) (by decide) hgn
                    try replace hBg := blk_grown hBg hgn (Kd.R_ne hRc hBg (by decide))
                    replace hFr := hFr.trans' (Fr.of_grown hgn) (fun i hi h => by have := Kd.R_base hRc i h.symm; omega)
                    clear hRc
                    have hRc := hRn
                    clear hRn
                    have hTn := HT.out _ hFr
                    refine hK.out (At St) _ _ (fun _ h => h) (fun _ => by (assumption)) ?_
                    clear hK K
                    try simp only [Act.put, List.setIfInBounds_toArray, List.set_cons_zero, List.set_cons_succ]
                    refine rt_free 28 (v := ?_) rfl (by as_aux_lemma => kernel_rfl) (by as_aux_lemma => kernel_rfl) (by as_aux_lemma => kernel_rfl) (by as_aux_lemma => kernel_rfl) (fun _ _ _ h => h) (by rfl) (fun _ => by first | assumption | exact HS0 _ rfl | exact HT.out _ (by repeat (first | exact Fr.refl _ _ | apply Fr.drew | refine Fr.alloc ?_ _))) ?_ ?_
                    rotate_left 1
                    · intro w; go_simp <;> with_reducible rfl
                    try simp only [Act.put, List.setIfInBounds_toArray, List.set_cons_zero, List.set_cons_succ]
                    refine rt_one 30 rfl (by as_aux_lemma => kernel_rfl) (fun K hK => ?_)
                    have b0 := Blk.cell hBg 0
                    have b1 := Blk.cell hBg 1
                    have b2 := Blk.cell hBg 2
                    have b3 := Blk.cell hBg 3
                    have b4 := Blk.cell hBg 4
                    have bf := Blk.frozen hBg
                    simp only [List.getElem?_toArray, List.getElem?_cons_zero, List.getElem?_cons_succ] at b0 b1 b2 b3 b4
                    go_simp
                    replace hRi := set5_R hRi hBg (by decide) (.int .i64 it.2.1.1) (.int .i64 it.2.1.2) (.int .i64 it.2.2.1) (.slice Ai it.2.2.2.1.length ci) (.slice Ac it.2.2.2.2.length cc)
                    replace hRc := set5_R hRc hBg (by decide) (.int .i64 it.2.1.1) (.int .i64 it.2.1.2) (.int .i64 it.2.2.1) (.slice Ai it.2.2.2.1.length ci) (.slice Ac it.2.2.2.2.length cc)
                    replace hFr := set5_Fr hFr hg3 (.int .i64 it.2.1.1) (.int .i64 it.2.1.2) (.int .i64 it.2.2.1) (.slice Ai it.2.2.2.1.length ci) (.slice Ac it.2.2.2.2.length cc)
                    replace hBg := set5 hBg (v0 := .int .i64 it.2.1.1) (v1 := .int .i64 it.2.1.2) (v2 := .int .i64 it.2.2.1) (v3 := .slice Ai it.2.2.2.1.length ci) (v4 := .slice Ac it.2.2.2.2.length cc)
                    clear b0 b1 b2 b3 b4 bf
                    generalize World.setCell _ _ _ = Wn at hRi hRc hBg hFr ⊢
                    refine hK.out (At St) _ _ (fun _ h => h) (late_abs (by as_aux_lemma => kernel_rfl)) ?_
                    clear hK K
                    try simp only [Act.put, List.setIfInBounds_toArray, List.set_cons_zero, List.set_cons_succ]
                    refine rt_done (by as_aux_lemma => kernel_rfl) ?_
                    all_goals exact cont _ _ _ _ _ _ _ _ hRi hRc hBg hg3 hFr
                  exact AllNextt.nil
                refine AllNextt.cons rfl (fun K hK => ?_) ?_
                · skip
                  go_simp
                  have hn := Kd.R_mono (Kd.R_lower (R_empty cmdK 54 _) hFr.size) (ok' := fun k => wc.heap.size ≤ k) (fun k hk => Nat.le_trans hFr.size hk)
                  replace hRi := Kd.R_alloc hRi (.cells #[] 54)
                  try replace hBg := Blk.alloc hBg (.cells #[] 54)
                  replace hFr := hFr.alloc (.cells #[] 54)
                  clear hRc
                  have hRc := hn
                  clear hn
                  generalize Wn.heap.size = gi at hRc ⊢
                  first | generalize World.alloc _ _ = Wn at hRi hRc hBg hFr ⊢ | generalize World.alloc _ _ = Wn at hRi hRc hFr ⊢
                  have hTn := HT.out _ hFr
                  refine hK.out (At St) _ _ (fun _ h => h) (fun _ => by (assumption)) ?_
                  clear hK K
                  try simp only [Act.put, List.setIfInBounds_toArray, List.set_cons_zero, List.set_cons_succ]
                  refine rt_ready [19, 29] (by as_aux_lemma => kernel_rfl) (by simp) ?_
                  refine AllNextt.cons rfl (fun K hK => ?_) ?_
                  · skip
                    obtain ⟨Ai, ci, Wn, hr, hRn, hgn⟩ := app_flat (P := Try.prog) idFlat (xs := it.2.2.2.1) (n := it.2.2.2.1.length) (c := cd) 30 30 _ 16 Try.underlying30 info_id rfl (by decide) (by decide) hRi (Kd.C_below HCi.out (hFr.below (fun _ _ h => h))) (fun k hk => Nat.le_trans hFr.size hk) hFr.size (by have := HSS.out.1; omega)
                    refine step_builtin2 rfl rfl rfl rfl (bi_append hr) ?_
                    replace hRc := Kd.R_over' hRc (Kd.R_typed hRi) (by decide) hgn
                    try replace hBg := blk_grown hBg hgn (Kd.R_ne hRi hBg (by decide))
                    replace hFr := hFr.trans' (Fr.of_grown hgn) (fun i hi h => by have := Kd.R_base hRi i h.symm; omega)
                    clear hRi
                    have hRi := hRn
                    clear hRn
                    have hTn := HT.out _ hFr
                    refine hK.out (At St) _ _ (fun _ h => h) (fun _ => by (assumption)) ?_
                    clear hK K
                    try simp only [Act.put, List.setIfInBounds_toArray, List.set_cons_zero, List.set_cons_succ]
                    refine rt_ready [27, 29] (by as_aux_lemma => kernel_rfl) (by simp) ?_
                    refine AllNextt.cons rfl (fun K hK => ?_) ?_
                    · skip
                      obtain ⟨Ac, cc, Wn, hr, hRn, hgn⟩ := app_flat (P := Try.prog) cmdFlat (xs := it.2.2.2.2) (n := it.2.2.2.2.length) (c := cb) 31 31 _ 32 Try.underlying31 info_cmd rfl (by decide) (by decide) hRc (Kd.C_below HCc.out (hFr.below (fun _ _ h => h))) (fun k hk => Nat.le_trans hFr.size hk) hFr.size (by have := HSS.out.2; omega)
                      refine step_builtin2 rfl rfl rfl rfl (bi_append hr) ?_
                      replace hRi := Kd.R_over' hRi (Kd.R_typed hRc) (by decide) hgn
                      try replace hBg := blk_grown hBg hgn (Kd.R_ne hRc hBg (by decide))
                      replace hFr := hFr.trans' (Fr.of_grown hgn) (fun i hi h => by have := Kd.R_base hRc i h.symm; omega)
                      clear hRc
                      have hRc := hRn
                      clear hRn
                      have hTn := HT.out _ hFr
                      refine hK.out (At St) _ _ (fun _ h => h) (fun _ => by (assumption)) ?_
                      clear hK K
                      try simp only [Act.put, List.setIfInBounds_toArray, List.set_cons_zero, List.set_cons_succ]
                      refine rt_free 28 (v := ?_) rfl (by as_aux_lemma => kernel_rfl) (by as_aux_lemma => kernel_rfl) (by as_aux_lemma => kernel_rfl) (by as_aux_lemma => kernel_rfl) (fun _ _ _ h => h) (by rfl) (fun _ => by first | assumption | exact HS0 _ rfl | exact HT.out _ (by repeat (first | exact Fr.refl _ _ | apply Fr.drew | refine Fr.alloc ?_ _))) ?_ ?_
                      rotate_left 1
                      · intro w; go_simp <;> with_reducible rfl
                      try simp only [Act.put, List.setIfInBounds_toArray, List.set_cons_zero, List.set_cons_succ]
                      refine rt_one 29 rfl (by as_aux_lemma => kernel_rfl) (fun K hK => ?_)
                      go_simp
                      have hg3 := hFr.size
                      have hBg := Blk.new Wn 33 #[.int .i64 0, .int .i64 0, .int .i64 0, .slice none 0 0, .slice none 0 0]
                      replace hRi := Kd.R_alloc hRi (.cells #[.int .i64 0, .int .i64 0, .int .i64 0, .slice none 0 0, .slice none 0 0] 33)
                      replace hRc := Kd.R_alloc hRc (.cells #[.int .i64 0, .int .i64 0, .int .i64 0, .slice none 0 0, .slice none 0 0] 33)
                      replace hFr := hFr.alloc (.cells #[.int .i64 0, .int .i64 0, .int .i64 0, .slice none 0 0, .slice none 0 0] 33)
                      generalize Wn.heap.size = g3 at hBg hg3 ⊢
                      generalize World.alloc _ _ = Wn at hRi hRc hBg hFr ⊢
                      have hTn := HT.out _ hFr
                      refine hK.out (At St) _ _ (fun _ h => h) (fun _ => by (assumption)) ?_
                      clear hK K
                      try simp only [Act.put, List.setIfInBounds_toArray, List.set_cons_zero, List.set_cons_succ]
                      refine rt_one 30 rfl (by as_aux_lemma => kernel_rfl) (fun K hK => ?_)
                      have b0 := Blk.cell hBg 0
                      have b1 := Blk.cell hBg 1
                      have b2 := Blk.cell hBg 2
                      have b3 := Blk.cell hBg 3
                      have b4 := Blk.cell hBg 4
                      have bf := Blk.frozen hBg
                      simp only [List.getElem?_toArray, List.getElem?_cons_zero, List.getElem?_cons_succ] at b0 b1 b2 b3 b4
                      go_simp
                      replace hRi := set5_R hRi hBg (by decide) (.int .i64 it.2.1.1) (.int .i64 it.2.1.2) (.int .i64 it.2.2.1) (.slice Ai it.2.2.2.1.length ci) (.slice Ac it.2.2.2.2.length cc)
                      replace hRc := set5_R hRc hBg (by decide) (.int .i64 it.2.1.1) (.int .i64 it.2.1.2) (.int .i64 it.2.2.1) (.slice Ai it.2.2.2.1.length ci) (.slice Ac it.2.2.2.2.length cc)
                      replace hFr := set5_Fr hFr hg3 (.int .i64 it.2.1.1) (.int .i64 it.2.1.2) (.int .i64 it.2.2.1) (.slice Ai it.2.2.2.1.length ci) (.slice Ac it.2.2.2.2.length cc)
                      replace hBg := set5 hBg (v0 := .int .i64 it.2.1.1) (v1 := .int .i64 it.2.1.2) (v2 := .int .i64 it.2.2.1) (v3 := .slice Ai it.2.2.2.1.length ci) (v4 := .slice Ac it.2.2.2.2.length cc)
                      clear b0 b1 b2 b3 b4 bf
                      generalize World.setCell _ _ _ = Wn at hRi hRc hBg hFr ⊢
                      refine hK.out (At St) _ _ (fun _ h => h) (late_abs (by as_aux_lemma => kernel_rfl)) ?_
                      clear hK K
                      try simp only [Act.put, List.setIfInBounds_toArray, List.set_cons_zero, List.set_cons_succ]
                      refine rt_done (by as_aux_lemma => kernel_rfl) ?_
                      all_goals exact cont _ _ _ _ _ _ _ _ hRi hRc hBg hg3 hFr
                    refine AllNextt.cons rfl (fun K hK => ?_) ?_
                    · skip
                      go_simp
                      have hg3 := hFr.size
                      have hBg := Blk.new Wn 33 #[.int .i64 0, .int .i64 0, .int .i64 0, .slice none 0 0, .slice none 0 0]
                      replace hRi := Kd.R_alloc hRi (.cells #[.int .i64 0, .int .i64 0, .int .i64 0, .slice none 0 0, .slice none 0 0] 33)
                      replace hRc := Kd.R_alloc hRc (.cells #[.int .i64 0, .int .i64 0, .int .i64 0, .slice none 0 0, .slice none 0 0] 33)
                      replace hFr := hFr.alloc (.cells #[.int .i64 0, .int .i64 0, .int .i64 0, .slice none 0 0, .slice none 0 0] 33)
                      generalize Wn.heap.size = g3 at hBg hg3 ⊢
                      generalize World.alloc _ _ = Wn at hRi hRc hBg hFr ⊢
                      have hTn := HT.out _ hFr
                      refine hK.out (At St) _ _ (fun _ h => h) (fun _ => by (assumption)) ?_
                      clear hK K
                      try simp only [Act.put, List.setIfInBounds_toArray, List.set_cons_zero, List.set_cons_succ]
                      refine rt_one 27 rfl (by as_aux_lemma => kernel_rfl) (fun K hK => ?_)
                      obtain ⟨Ac, cc, Wn, hr, hRn, hgn⟩ := app_flat (P := Try.prog) cmdFlat (xs := it.2.2.2.2) (n := it.2.2.2.2.length) (c := cb) 31 31 _ 32 Try.underlying31 info_cmd rfl (by decide) (by decide) hRc (Kd.C_below HCc.out (hFr.below (fun _ _ h => h))) (fun k hk => Nat.le_trans hFr.size hk) hFr.size (by have := HSS.out.2; omega)
                      refine step_builtin2 rfl rfl rfl rfl (bi_append hr) ?_
                      replace hRi := Kd.R_over' hRi (Kd.R_typed hRc) (by decide) hgn
                      try replace hBg := blk_grown hBg hgn (Kd.R_ne hRc hBg (by decide))
                      replace hFr := hFr.trans' (Fr.of_grown hgn) (fun i hi h => by have := Kd.R_base hRc i h.symm; omega)
                      clear hRc
                      have hRc := hRn
                      clear hRn
                      have hTn := HT.out _ hFr
                      refine hK.out (At St) _ _ (fun _ h => h) (fun _ => by (assumption)) ?_
                      clear hK K
                      try simp only [Act.put, List.setIfInBounds_toArray, List.set_cons_zero, List.set_cons_succ]
                      refine rt_free 28 (v := ?_) rfl (by as_aux_lemma => kernel_rfl) (by as_aux_lemma => kernel_rfl) (by as_aux_lemma => kernel_rfl) (by as_aux_lemma => kernel_rfl) (fun _ _ _ h => h) (by rfl) (fun _ => by first | assumption | exact HS0 _ rfl | exact HT.out _ (by repeat (first | exact Fr.refl _ _ | apply Fr.drew | refine Fr.alloc ?_ _))) ?_ ?_
                      rotate_left 1
                      · intro w; go_simp <;> with_reducible rfl
                      try simp only [Act.put, List.setIfInBounds_toArray, List.set_cons_zero, List.set_cons_succ]
                      refine rt_one 30 rfl (by as_aux_lemma => kernel_rfl) (fun K hK => ?_)
                      have b0 := Blk.cell hBg 0
                      have b1 := Blk.cell hBg 1
                      have b2 := Blk.cell hBg 2
                      have b3 := Blk.cell hBg 3
                      have b4 := Blk.cell hBg 4
                      have bf := Blk.frozen hBg
                      simp only [List.getElem?_toArray, List.getElem?_cons_zero, List.getElem?_cons_succ] at b0 b1 b2 b3 b4
                      go_simp
                      replace hRi := set5_R hRi hBg (by decide) (.int .i64 it.2.1.1) (.int .i64 it.2.1.2) (.int .i64 it.2.2.1) (.slice Ai it.2.2.2.1.length ci) (.slice Ac it.2.2.2.2.length cc)
                      replace hRc := set5_R hRc hBg (by decide) (.int .i64 it.2.1.1) (.int .i64 it.2.1.2) (.int .i64 it.2.2.1) (.slice Ai it.2.2.2.1.length ci) (.slice Ac it.2.2.2.2.length cc)
                      replace hFr := set5_Fr hFr hg3 (.int .i64 it.2.1.1) (.int .i64 it.2.1.2) (.int .i64 it.2.2.1) (.slice Ai it.2.2.2.1.length ci) (.slice Ac it.2.2.2.2.length cc)
                      replace hBg := set5 hBg (v0 := .int .i64 it.2.1.1) (v1 := .int .i64 it.2.1.2) (v2 := .int .i64 it.2.2.1) (v3 := .slice Ai it.2.2.2.1.length ci) (v4 := .slice Ac it.2.2.2.2.length cc)
                      clear b0 b1 b2 b3 b4 bf
                      generalize World.setCell _ _ _ = Wn at hRi hRc hBg hFr ⊢
                      refine hK.out (At St) _ _ (fun _ h => h) (late_abs (by as_aux_lemma => kernel_rfl)) ?_
                      clear hK K
                      try simp only [Act.put, List.setIfInBounds_toArray, List.set_cons_zero, List.set_cons_succ]
                      refine rt_done (by as_aux_lemma => kernel_rfl) ?_
                      all_goals exact cont _ _ _ _ _ _ _ _ hRi hRc hBg hg3 hFr
                    exact AllNextt.nil
                  refine AllNextt.cons rfl (fun K hK => ?_) ?_
                  · skip
                    go_simp
                    have hg3 := hFr.size
                    have hBg := Blk.new Wn 33 #[.int .i64 0, .int .i64 0, .int .i64 0, .slice none 0 0, .slice none 0 0]
                    replace hRi := Kd.R_alloc hRi (.cells #[.int .i64 0, .int .i64 0, .int .i64 0, .slice none 0 0, .slice none 0 0] 33)
                    replace hRc := Kd.R_alloc hRc (.cells #[.int .i64 0, .int .i64 0, .int .i64 0, .slice none 0 0, .slice none 0 0] 33)
                    replace hFr := hFr.alloc (.cells #[.int .i64 0, .int .i64 0, .int .i64 0, .slice none 0 0, .slice none 0 0] 33)
                    generalize Wn.heap.size = g3 at hBg hg3 ⊢
                    generalize World.alloc _ _ = Wn at hRi hRc hBg hFr ⊢
                    have hTn := HT.out _ hFr
                    refine hK.out (At St) _ _ (fun _ h => h) (fun _ => by (assumption)) ?_
                    clear hK K
                    try simp only [Act.put, List.setIfInBounds_toArray, List.set_cons_zero, List.set_cons_succ]
                    refine rt_one 19 rfl (by as_aux_lemma => kernel_rfl) (fun K hK => ?_)
                    obtain ⟨Ai, ci, Wn, hr, hRn, hgn⟩ := app_flat (P := Try.prog) idFlat (xs := it.2.2.2.1) (n := it.2.2.2.1.length) (c := cd) 30 30 _ 16 Try.underlying30 info_id rfl (by decide) (by decide) hRi (Kd.C_below HCi.out (hFr.below (fun _ _ h => h))) (fun k hk => Nat.le_trans hFr.size hk) hFr.size (by have := HSS.out.1; omega)
                    refine step_builtin2 rfl rfl rfl rfl (bi_append hr) ?_
                    replace hRc := Kd.R_over' hRc (Kd.R_typed hRi) (by decide) hgn
                    try replace hBg := blk_grown hBg hgn (Kd.R_ne hRi hBg (by decide))
                    replace hFr := hFr.trans' (Fr.of_grown hgn) (fun i hi h => by have := Kd.R_base hRi i h.symm; omega)
                    clear hRi
                    have hRi := hRn
                    clear hRn
                    have hTn := HT.out _ hFr
                    refine hK.out (At St) _ _ (fun _ h => h) (fun _ => by (assumption)) ?_
                    clear hK K
                    try simp only [Act.put, List.setIfInBounds_toArray, List.set_cons_zero, List.set_cons_succ]
                    refine rt_one 27 rfl (by as_aux_lemma => kernel_rfl) (fun K hK => ?_)
                    obtain ⟨Ac, cc, Wn, hr, hRn, hgn⟩ := app_flat (P := Try.prog) cmdFlat (xs := it.2.2.2.2) (n := it.2.2.2.2.length) (c := cb) 31 31 _ 32 Try.underlying31 info_cmd rfl (by decide) (by decide) hRc (Kd.C_below HCc.out (hFr.below (fun _ _ h => h))) (fun k hk => Nat.le_trans hFr.size hk) hFr.size (by have := HSS.out.2; omega)
                    refine step_builtin2 rfl rfl rfl rfl (bi_append hr) ?_
                    replace hRi := Kd.R_over' hRi (Kd.R_typed hRc) (by decide) hgn
                    try replace hBg := blk_grown hBg hgn (Kd.R_ne hRc hBg (by decide))
                    replace hFr := hFr.trans' (Fr.of_grown hgn) (fun i hi h => by have := Kd.R_base hRc i h.symm; omega)
                    clear hRc
                    have hRc := hRn
                    clear hRn
                    have hTn := HT.out _ hFr
                    refine hK.out (At St) _ _ (fun _ h => h) (fun _ => by (assumption)) ?_
                    clear hK K
                    try simp only [Act.put, List.setIfInBounds_toArray, List.set_cons_zero, List.set_cons_succ]
                    refine rt_free 28 (v := ?_) rfl (by as_aux_lemma => kernel_rfl) (by as_aux_lemma => kernel_rfl) (by as_aux_lemma => kernel_rfl) (by as_aux_lemma => kernel_rfl) (fun _ _ _ h => h) (by rfl) (fun _ => by first | assumption | exact HS0 _ rfl | exact HT.out _ (by repeat (first | exact Fr.refl _ _ | apply Fr.drew | refine Fr.alloc ?_ _))) ?_ ?_
                    rotate_left 1
                    · intro w; go_simp <;> with_reducible rfl
                    try simp only [Act.put, List.setIfInBounds_toArray, List.set_cons_zero, List.set_cons_succ]
                    refine rt_one 30 rfl (by as_aux_lemma => kernel_rfl) (fun K hK => ?_)
                    have b0 := Blk.cell hBg 0
                    have b1 := Blk.cell hBg 1
                    have b2 := Blk.cell hBg 2
                    have b3 := Blk.cell hBg 3
                    have b4 := Blk.cell hBg 4
                    have bf := Blk.frozen hBg
                    simp only [List.getElem?_toArray, List.getElem?_cons_zero, List.getElem?_cons_succ] at b0 b1 b2 b3 b4
                    go_simp
                    replace hRi := set5_R hRi hBg (by decide) (.int .i64 it.2.1.1) (.int .i64 it.2.1.2) (.int .i64 it.2.2.1) (.slice Ai it.2.2.2.1.length ci) (.slice Ac it.2.2.2.2.length cc)
                    replace hRc := set5_R hRc hBg (by decide) (.int .i64 it.2.1.1) (.int .i64 it.2.1.2) (.int .i64 it.2.2.1) (.slice Ai it.2.2.2.1.length ci) (.slice Ac it.2.2.2.2.length cc)
                    replace hFr := set5_Fr hFr hg3 (.int .i64 it.2.1.1) (.int .i64 it.2.1.2) (.int .i64 it.2.2.1) (.slice Ai it.2.2.2.1.length ci) (.slice Ac it.2.2.2.2.length cc)
                    replace hBg := set5 hBg (v0 := .int .i64 it.2.1.1) (v1 := .int .i64 it.2.1.2) (v2 := .int .i64 it.2.2.1) (v3 := .slice Ai it.2.2.2.1.length ci) (v4 := .slice Ac it.2.2.2.2.length cc)
                    clear b0 b1 b2 b3 b4 bf
                    generalize World.setCell _ _ _ = Wn at hRi hRc hBg hFr ⊢
                    refine hK.out (At St) _ _ (fun _ h => h) (late_abs (by as_aux_lemma => kernel_rfl)) ?_
                    clear hK K
                    try simp only [Act.put, List.setIfInBounds_toArray, List.set_cons_zero, List.set_cons_succ]
                    refine rt_done (by as_aux_lemma => kernel_rfl) ?_
                    all_goals exact cont _ _ _ _ _ _ _ _ hRi hRc hBg hg3 hFr
                  exact AllNextt.nil
                refine AllNextt.cons rfl (fun K hK => ?_) ?_
                · skip
                  go_simp
                  have hg3 := hFr.size
                  have hBg := Blk.new Wn 33 #[.int .i64 0, .int .i64 0, .int .i64 0, .slice none 0 0, .slice none 0 0]
                  replace hRi := Kd.R_alloc hRi (.cells #[.int .i64 0, .int .i64 0, .int .i64 0, .slice none 0 0, .slice none 0 0] 33)
                  replace hRc := Kd.R_alloc hRc (.cells #[.int .i64 0, .int .i64 0, .int .i64 0, .slice none 0 0, .slice none 0 0] 33)
                  replace hFr := hFr.alloc (.cells #[.int .i64 0, .int .i64 0, .int .i64 0, .slice none 0 0, .slice none 0 0] 33)
                  generalize Wn.heap.size = g3 at hBg hg3 ⊢
                  generalize World.alloc _ _ = Wn at hRi hRc hBg hFr ⊢
                  have hTn := HT.out _ hFr
                  refine hK.out (At St) _ _ (fun _ h => h) (fun _ => by (assumption)) ?_
                  clear hK K
                  try simp only [Act.put, List.setIfInBounds_toArray, List.set_cons_zero, List.set_cons_succ]
                  refine rt_ready [19, 20] (by as_aux_lemma => kernel_rfl) (by simp) ?_
                  refine AllNextt.cons rfl (fun K hK => ?_) ?_
                  · skip
                    obtain ⟨Ai, ci, Wn, hr, hRn, hgn⟩ := app_flat (P := Try.prog) idFlat (xs := it.2.2.2.1) (n := it.2.2.2.1.length) (c := cd) 30 30 _ 16 Try.underlying30 info_id rfl (by decide) (by decide) hRi (Kd.C_below HCi.out (hFr.below (fun _ _ h => h))) (fun k hk => Nat.le_trans hFr.size hk) hFr.size (by have := HSS.out.1; omega)
                    refine step_builtin2 rfl rfl rfl rfl (bi_append hr) ?_
                    replace hRc := Kd.R_over' hRc (Kd.R_typed hRi) (by decide) hgn
                    try replace hBg := blk_grown hBg hgn (Kd.R_ne hRi hBg (by decide))
                    replace hFr := hFr.trans' (Fr.of_grown hgn) (fun i hi h => by have := Kd.R_base hRi i h.symm; omega)
                    clear hRi
                    have hRi := hRn
                    clear hRn
                    have hTn := HT.out _ hFr
                    refine hK.out (At St) _ _ (fun _ h => h) (fun _ => by (assumption)) ?_
                    clear hK K
                    try simp only [Act.put, List.setIfInBounds_toArray, List.set_cons_zero, List.set_cons_succ]
                    refine rt_one 20 rfl (by as_aux_lemma => kernel_rfl) (fun K hK => ?_)
                    go_simp
                    have hn := Kd.R_mono (Kd.R_lower (R_empty cmdK 54 _) hFr.size) (ok' := fun k => wc.heap.size ≤ k) (fun k hk => Nat.le_trans hFr.size hk)
                    replace hRi := Kd.R_alloc hRi (.cells #[] 54)
                    try replace hBg := Blk.alloc hBg (.cells #[] 54)
                    replace hFr := hFr.alloc (.cells #[] 54)
                    clear hRc
                    have hRc := hn
                    clear hn
                    generalize Wn.heap.size = gi at hRc ⊢
                    first | generalize World.alloc _ _ = Wn at hRi hRc hBg hFr ⊢ | generalize World.alloc _ _ = Wn at hRi hRc hFr ⊢
                    have hTn := HT.out _ hFr
                    refine hK.out (At St) _ _ (fun _ h => h) (fun _ => by (assumption)) ?_
                    clear hK K
                    try simp only [Act.put, List.setIfInBounds_toArray, List.set_cons_zero, List.set_cons_succ]
                    refine rt_one 27 rfl (by as_aux_lemma => kernel_rfl) (fun K hK => ?_)
                    obtain ⟨Ac, cc, Wn, hr, hRn, hgn⟩ := app_flat (P := Try.prog) cmdFlat (xs := it.2.2.2.2) (n := it.2.2.2.2.length) (c := cb) 31 31 _ 32 Try.underlying31 info_cmd rfl (by decide) (by decide) hRc (Kd.C_below HCc.out (hFr.below (fun _ _ h => h))) (fun k hk => Nat.le_trans hFr.size hk) hFr.size (by have := HSS.out.2; omega)
                    refine step_builtin2 rfl rfl rfl rfl (bi_append hr) ?_
                    replace hRi := Kd.R_over' hRi (Kd.R_typed hRc) (by decide) hgn
                    try replace hBg := blk_grown hBg hgn (Kd.R_ne hRc hBg (by decide))
                    replace hFr := hFr.trans' (Fr.of_grown hgn) (fun i hi h => by have := Kd.R_base hRc i h.symm; omega)
                    clear hRc
                    have hRc := hRn
                    clear hRn
                    have hTn := HT.out _ hFr
                    refine hK.out (At St) _ _ (fun _ h => h) (fun _ => by (assumption)) ?_
                    clear hK K
                    try simp only [Act.put, List.setIfInBounds_toArray, List.set_cons_zero, List.set_cons_succ]
                    refine rt_free 28 (v := ?_) rfl (by as_aux_lemma => kernel_rfl) (by as_aux_lemma => kernel_rfl) (by as_aux_lemma => kernel_rfl) (by as_aux_lemma => kernel_rfl) (fun _ _ _ h => h) (by rfl) (fun _ => by first | assumption | exact HS0 _ rfl | exact HT.out _ (by repeat (first | exact Fr.refl _ _ | apply Fr.drew | refine Fr.alloc ?_ _))) ?_ ?_
                    rotate_left 1
                    · intro w; go_simp <;> with_reducible rfl
                    try simp only [Act.put, List.setIfInBounds_toArray, List.set_cons_zero, List.set_cons_succ]
                    refine rt_one 30 rfl (by as_aux_lemma => kernel_rfl) (fun K hK => ?_)
                    have b0 := Blk.cell hBg 0
                    have b1 := Blk.cell hBg 1
                    have b2 := Blk.cell hBg 2
                    have b3 := Blk.cell hBg 3
                    have b4 := Blk.cell hBg 4
                    have bf := Blk.frozen hBg
                    simp only [List.getElem?_toArray, List.getElem?_cons_zero, List.getElem?_cons_succ] at b0 b1 b2 b3 b4
                    go_simp
                    replace hRi := set5_R hRi hBg (by decide) (.int .i64 it.2.1.1) (.int .i64 it.2.1.2) (.int .i64 it.2.2.1) (.slice Ai it.2.2.2.1.length ci) (.slice Ac it.2.2.2.2.length cc)
                    replace hRc := set5_R hRc hBg (by decide) (.int .i64 it.2.1.1) (.int .i64 it.2.1.2) (.int .i64 it.2.2.1) (.slice Ai it.2.2.2.1.length ci) (.slice Ac it.2.2.2.2.length cc)
                    replace hFr := set5_Fr hFr hg3 (.int .i64 it.2.1.1) (.int .i64 it.2.1.2) (.int .i64 it.2.2.1) (.slice Ai it.2.2.2.1.length ci) (.slice Ac it.2.2.2.2.length cc)
                    replace hBg := set5 hBg (v0 := .int .i64 it.2.1.1) (v1 := .int .i64 it.2.1.2) (v2 := .int .i64 it.2.2.1) (v3 := .slice Ai it.2.2.2.1.length ci) (v4 := .slice Ac it.2.2.2.2.length cc)
                    clear b0 b1 b2 b3 b4 bf
                    generalize World.setCell _ _ _ = Wn at hRi hRc hBg hFr ⊢
                    refine hK.out (At St) _ _ (fun _ h => h) (late_abs (by as_aux_lemma => kernel_rfl)) ?_
                    clear hK K
                    try simp only [Act.put, List.setIfInBounds_toArray, List.set_cons_zero, List.set_cons_succ]
                    refine rt_done (by as_aux_lemma => kernel_rfl) ?_
                    all_goals exact cont _ _ _ _ _ _ _ _ hRi hRc hBg hg3 hFr
                  refine AllNextt.cons rfl (fun K hK => ?_) ?_
                  · skip
                    go_simp
                    have hn := Kd.R_mono (Kd.R_lower (R_empty cmdK 54 _) hFr.size) (ok' := fun k => wc.heap.size ≤ k) (fun k hk => Nat.le_trans hFr.size hk)
                    replace hRi := Kd.R_alloc hRi (.cells #[] 54)
                    try replace hBg := Blk.alloc hBg (.cells #[] 54)
                    replace hFr := hFr.alloc (.cells #[] 54)
                    clear hRc
                    have hRc := hn
                    clear hn
                    generalize Wn.heap.size = gi at hRc ⊢
                    first | generalize World.alloc _ _ = Wn at hRi hRc hBg hFr ⊢ | generalize World.alloc _ _ = Wn at hRi hRc hFr ⊢
                    have hTn := HT.out _ hFr
                    refine hK.out (At St) _ _ (fun _ h => h) (fun _ => by (assumption)) ?_
                    clear hK K
                    try simp only [Act.put, List.setIfInBounds_toArray, List.set_cons_zero, List.set_cons_succ]
                    refine rt_one 19 rfl (by as_aux_lemma => kernel_rfl) (fun K hK => ?_)
                    obtain ⟨Ai, ci, Wn, hr, hRn, hgn⟩ := app_flat (P := Try.prog) idFlat (xs := it.2.2.2.1) (n := it.2.2.2.1.length) (c := cd) 30 30 _ 16 Try.underlying30 info_id rfl (by decide) (by decide) hRi (Kd.C_below HCi.out (hFr.below (fun _ _ h => h))) (fun k hk => Nat.le_trans hFr.size hk) hFr.size (by have := HSS.out.1; omega)
                    refine step_builtin2 rfl rfl rfl rfl (bi_append hr) ?_
                    replace hRc := Kd.R_over' hRc (Kd.R_typed hRi) (by decide) hgn
                    try replace hBg := blk_grown hBg hgn (Kd.R_ne hRi hBg (by decide))
                    replace hFr := hFr.trans' (Fr.of_grown hgn) (fun i hi h => by have := Kd.R_base hRi i h.symm; omega)
                    clear hRi
                    have hRi := hRn
                    clear hRn
                    have hTn := HT.out _ hFr
                    refine hK.out (At St) _ _ (fun _ h => h) (fun _ => by (assumption)) ?_
                    clear hK K
                    try simp only [Act.put, List.setIfInBounds_toArray, List.set_cons_zero, List.set_cons_succ]
                    refine rt_one 27 rfl (by as_aux_lemma => kernel_rfl) (fun K hK => ?_)
                    obtain ⟨Ac, cc, Wn, hr, hRn, hgn⟩ := app_flat (P := Try.prog) cmdFlat (xs := it.2.2.2.2) (n := it.2.2.2.2.length) (c := cb) 31 31 _ 32 Try.underlying31 info_cmd rfl (by decide) (by decide) hRc (Kd.C_below HCc.out (hFr.below (fun _ _ h => h))) (fun k hk => Nat.le_trans hFr.size hk) hFr.size (by have := HSS.out.2; omega)
                    refine step_builtin2 rfl rfl rfl rfl (bi_append hr) ?_
                    replace hRi := Kd.R_over' hRi (Kd.R_typed hRc) (by decide) hgn
                    try replace hBg := blk_grown hBg hgn (Kd.R_ne hRc hBg (by decide))
                    replace hFr := hFr.trans' (Fr.of_grown hgn) (fun i hi h => by have := Kd.R_base hRc i h.symm; omega)
                    clear hRc
                    have hRc := hRn
                    clear hRn
                    have hTn := HT.out _ hFr
                    refine hK.out (At St) _ _ (fun _ h => h) (fun _ => by (assumption)) ?_
                    clear hK K
                    try simp only [Act.put, List.setIfInBounds_toArray, List.set_cons_zero, List.set_cons_succ]
                    refine rt_free 28 (v := ?_) rfl (by as_aux_lemma => kernel_rfl) (by as_aux_lemma => kernel_rfl) (by as_aux_lemma => kernel_rfl) (by as_aux_lemma => kernel_rfl) (fun _ _ _ h => h) (by rfl) (fun _ => by first | assumption | exact HS0 _ rfl | exact HT.out _ (by repeat (first | exact Fr.refl _ _ | apply Fr.drew | refine Fr.alloc ?_ _))) ?_ ?_
                    rotate_left 1
                    · intro w; go_simp <;> with_reducible rfl
                    try simp only [Act.put, List.setIfInBounds_toArray, List.set_cons_zero, List.set_cons_succ]
                    refine rt_one 30 rfl (by as_aux_lemma => kernel_rfl) (fun K hK => ?_)
                    have b0 := Blk.cell hBg 0
                    have b1 := Blk.cell hBg 1
                    have b2 := Blk.cell hBg 2
                    have b3 := Blk.cell hBg 3
                    have b4 := Blk.cell hBg 4
                    have bf := Blk.frozen hBg
                    simp only [List.getElem?_toArray, List.getElem?_cons_zero, List.getElem?_cons_succ] at b0 b1 b2 b3 b4
                    go_simp
                    replace hRi := set5_R hRi hBg (by decide) (.int .i64 it.2.1.1) (.int .i64 it.2.1.2) (.int .i64 it.2.2.1) (.slice Ai it.2.2.2.1.length ci) (.slice Ac it.2.2.2.2.length cc)
                    replace hRc := set5_R hRc hBg (by decide) (.int .i64 it.2.1.1) (.int .i64 it.2.1.2) (.int .i64 it.2.2.1) (.slice Ai it.2.2.2.1.length ci) (.slice Ac it.2.2.2.2.length cc)
                    replace hFr := set5_Fr hFr hg3 (.int .i64 it.2.1.1) (.int .i64 it.2.1.2) (.int .i64 it.2.2.1) (.slice Ai it.2.2.2.1.length ci) (.slice Ac it.2.2.2.2.length cc)
                    replace hBg := set5 hBg (v0 := .int .i64 it.2.1.1) (v1 := .int .i64 it.2.1.2) (v2 := .int .i64 it.2.2.1) (v3 := .slice Ai it.2.2.2.1.length ci) (v4 := .slice Ac it.2.2.2.2.length cc)
                    clear b0 b1 b2 b3 b4 bf
                    generalize World.setCell _ _ _ = Wn at hRi hRc hBg hFr ⊢
                    refine hK.out (At St) _ _ (fun _ h => h) (late_abs (by as_aux_lemma => kernel_rfl)) ?_
                    clear hK K
                    try simp only [Act.put, List.setIfInBounds_toArray, List.set_cons_zero, List.set_cons_succ]
                    refine rt_done (by as_aux_lemma => kernel_rfl) ?_
                    all_goals exact cont _ _ _ _ _ _ _ _ hRi hRc hBg hg3 hFr
                  exact AllNextt.nil
                exact AllNextt.nil
              refine AllNextt.cons rfl (fun K hK => ?_) ?_
              · skip
                go_simp
                have hn := Kd.R_mono (Kd.R_lower (R_empty cmdK 54 _) hFr.size) (ok' := fun k => wc.heap.size ≤ k) (fun k hk => Nat.le_trans hFr.size hk)
                replace hRi := Kd.R_alloc hRi (.cells #[] 54)
                try replace hBg := Blk.alloc hBg (.cells #[] 54)
                replace hFr := hFr.alloc (.cells #[] 54)
                clear hRc
                have hRc := hn
                clear hn
                generalize Wn.heap.size = gi at hRc ⊢
                first | generalize World.alloc _ _ = Wn at hRi hRc hBg hFr ⊢ | generalize World.alloc _ _ = Wn at hRi hRc hFr ⊢
                have hTn := HT.out _ hFr
                refine hK.out (At St) _ _ (fun _ h => h) (fun _ => by (assumption)) ?_
                clear hK K
                try simp only [Act.put, List.setIfInBounds_toArray, List.set_cons_zero, List.set_cons_succ]
                refine rt_ready [12, 29] (by as_aux_lemma => kernel_rfl) (by simp) ?_
                refine AllNextt.cons rfl (fun K hK => ?_) ?_
                · skip
                  go_simp
                  have hn := Kd.R_mono (Kd.R_lower (R_empty idK 29 _) hFr.size) (ok' := fun k => wc.heap.size ≤ k) (fun k hk => Nat.le_trans hFr.size hk)
                  replace hRc := Kd.R_alloc hRc (.cells #[] 29)
                  try replace hBg := Blk.alloc hBg (.cells #[] 29)
                  replace hFr := hFr.alloc (.cells #[] 29)
                  clear hRi
                  have hRi := hn
                  clear hn
                  generalize Wn.heap.size = gi at hRi ⊢
                  first | generalize World.alloc _ _ = Wn at hRi hRc hBg hFr ⊢ | generalize World.alloc _ _ = Wn at hRi hRc hFr ⊢
                  have hTn := HT.out _ hFr
                  refine hK.out (At St) _ _ (fun _ h => h) (fun _ => by (assumption)) ?_
                  clear hK K
                  try simp only [Act.put, List.setIfInBounds_toArray, List.set_cons_zero, List.set_cons_succ]
                  refine rt_ready [19, 29] (by as_aux_lemma => kernel_rfl) (by simp) ?_
                  refine AllNextt.cons rfl (fun K hK => ?_) ?_
                  · skip
                    obtain ⟨Ai, ci, Wn, hr, hRn, hgn⟩ := app_flat (P := Try.prog) idFlat (xs := it.2.2.2.1) (n := it.2.2.2.1.length) (c := cd) 30 30 _ 16 Try.underlying30 info_id rfl (by decide) (by decide) hRi (Kd.C_below HCi.out (hFr.below (fun _ _ h => h))) (fun k hk => Nat.le_trans hFr.size hk) hFr.size (by have := HSS.out.1; omega)
                    refine step_builtin2 rfl rfl rfl rfl (bi_append hr) ?_
                    replace hRc := Kd.R_over' hRc (Kd.R_typed hRi) (by decide) hgn
                    try replace hBg := blk_grown hBg hgn (Kd.R_ne hRi hBg (by decide))
                    replace hFr := hFr.trans' (Fr.of_grown hgn) (fun i hi h => by have := Kd.R_base hRi i h.symm; omega)
                    clear hRi
                    have hRi := hRn
                    clear hRn
                    have hTn := HT.out _ hFr
                    refine hK.out (At St) _ _ (fun _ h => h) (fun _ => by (assumption)) ?_
                    clear hK K
                    try simp only [Act.put, List.setIfInBounds_toArray, List.set_cons_zero, List.set_cons_succ]
                    refine rt_ready [27, 29] (by as_aux_lemma => kernel_rfl) (by simp) ?_
                    refine AllNextt.cons rfl (fun K hK => ?_) ?_
                    · skip
                      obtain ⟨Ac, cc, Wn, hr, hRn, hgn⟩ := app_flat (P := Try.prog) cmdFlat (xs := it.2.2.2.2) (n := it.2.2.2.2.length) (c := cb) 31 31 _ 32 Try.underlying31 info_cmd rfl (by decide) (by decide) hRc (Kd.C_below HCc.out (hFr.below (fun _ _ h => h))) (fun k hk => Nat.le_trans hFr.size hk) hFr.size (by have := HSS.out.2; omega)
                      refine step_builtin2 rfl rfl rfl rfl (bi_append hr) ?_
                      replace hRi := Kd.R_over' hRi (Kd.R_typed hRc) (by decide) hgn
                      try replace hBg := blk_grown hBg hgn (Kd.R_ne hRc hBg (by decide))
                      replace hFr := hFr.trans' (Fr.of_grown hgn) (fun i hi h => by have := Kd.R_base hRc i h.symm; omega)
                      clear hRc
                      have hRc := hRn
                      clear hRn
                      have hTn := HT.out _ hFr
                      refine hK.out (At St) _ _ (fun _ h => h) (fun _ => by (assumption)) ?_
                      clear hK K
                      try simp only [Act.put, List.setIfInBounds_toArray, List.set_cons_zero, List.set_cons_succ]
                      refine rt_free 28 (v := ?_) rfl (by as_aux_lemma => kernel_rfl) (by as_aux_lemma => kernel_rfl) (by as_aux_lemma => kernel_rfl) (by as_aux_lemma => kernel_rfl) (fun _ _ _ h => h) (by rfl) (fun _ => by first | assumption | exact HS0 _ rfl | exact HT.out _ (by repeat (first | exact Fr.refl _ _ | apply Fr.drew | refine Fr.alloc ?_ _))) ?_ ?_
                      rotate_left 1
                      · intro w; go_simp <;> with_reducible rfl
                      try simp only [Act.put, List.setIfInBounds_toArray, List.set_cons_zero, List.set_cons_succ]
                      refine rt_one 29 rfl (by as_aux_lemma => kernel_rfl) (fun K hK => ?_)
                      go_simp
                      have hg3 := hFr.size
                      have hBg := Blk.new Wn 33 #[.int .i64 0, .int .i64 0, .int .i64 0, .slice none 0 0, .slice none 0 0]
                      replace hRi := Kd.R_alloc hRi (.cells #[.int .i64 0, .int .i64 0, .int .i64 0, .slice none 0 0, .slice none 0 0] 33)
                      replace hRc := Kd.R_alloc hRc (.cells #[.int .i64 0, .int .i64 0, .int .i64 0, .slice none 0 0, .slice none 0 0] 33)
                      replace hFr := hFr.alloc (.cells #[.int .i64 0, .int .i64 0, .int .i64 0, .slice none 0 0, .slice none 0 0] 33)
                      generalize Wn.heap.size = g3 at hBg hg3 ⊢
                      generalize World.alloc _ _ = Wn at hRi hRc hBg hFr ⊢
                      have hTn := HT.out _ hFr
                      refine hK.out (At St) _ _ (fun _ h => h) (fun _ => by (assumption)) ?_
                      clear hK K
                      try simp only [Act.put, List.setIfInBounds_toArray, List.set_cons_zero, List.set_cons_succ]
                      refine rt_one 30 rfl (by as_aux_lemma => kernel_rfl) (fun K hK => ?_)
                      have b0 := Blk.cell hBg 0
                      have b1 := Blk.cell hBg 1
                      have b2 := Blk.cell hBg 2
                      have b3 := Blk.cell hBg 3
                      have b4 := Blk.cell hBg 4
                      have bf := Blk.frozen hBg
                      simp only [List.getElem?_toArray, List.getElem?_cons_zero, List.getElem?_cons_succ] at b0 b1 b2 b3 b4
                      go_simp
                      replace hRi := set5_R hRi hBg (by decide) (.int .i64 it.2.1.1) (.int .i64 it.2.1.2) (.int .i64 it.2.2.1) (.slice Ai it.2.2.2.1.length ci) (.slice Ac it.2.2.2.2.length cc)
                      replace hRc := set5_R hRc hBg (by decide) (.int .i64 it.2.1.1) (.int .i64 it.2.1.2) (.int .i64 it.2.2.1) (.slice Ai it.2.2.2.1.length ci) (.slice Ac it.2.2.2.2.length cc)
                      replace hFr := set5_Fr hFr hg3 (.int .i64 it.2.1.1) (.int .i64 it.2.1.2) (.int .i64 it.2.2.1) (.slice Ai it.2.2.2.1.length ci) (.slice Ac it.2.2.2.2.length cc)
                      replace hBg := set5 hBg (v0 := .int .i64 it.2.1.1) (v1 := .int .i64 it.2.1.2) (v2 := .int .i64 it.2.2.1) (v3 := .slice Ai it.2.2.2.1.length ci) (v4 := .slice Ac it.2.2.2.2.length cc)
                      clear b0 b1 b2 b3 b4 bf
                      generalize World.setCell _ _ _ = Wn at hRi hRc hBg hFr ⊢
                      refine hK.out (At St) _ _ (fun _ h => h) (late_abs (by as_aux_lemma => kernel_rfl)) ?_
                      clear hK K
                      try simp only [Act.put, List.setIfInBounds_toArray, List.set_cons_zero, List.set_cons_succ]
                      refine rt_done (by as_aux_lemma => kernel_rfl) ?_
                      all_goals exact cont _ _ _ _ _ _ _ _ hRi hRc hBg hg3 hFr
                    refine AllNextt.cons rfl (fun K hK => ?_) ?_
                    · skip
                      go_simp
                      have hg3 := hFr.size
                      have hBg := Blk.new Wn 33 #[.int .i64 0, .int .i64 0, .int .i64 0, .slice none 0 0, .slice none 0 0]
                      replace hRi := Kd.R_alloc hRi (.cells #[.int .i64 0, .int .i64 0, .int .i64 0, .slice none 0 0, .slice none 0 0] 33)
                      replace hRc := Kd.R_alloc hRc (.cells #[.int .i64 0, .int .i64 0, .int .i64 0, .slice none 0 0, .slice none 0 0] 33)
                      replace hFr := hFr.alloc (.cells #[.int .i64 0, .int .i64 0, .int .i64 0, .slice none 0 0, .slice none 0 0] 33)
                      generalize Wn.heap.size = g3 at hBg hg3 ⊢
                      generalize World.alloc _ _ = Wn at hRi hRc hBg hFr ⊢
                      have hTn := HT.out _ hFr
                      refine hK.out (At St) _ _ (fun _ h => h) (fun _ => by (assumption)) ?_
                      clear hK K
                      try simp only [Act.put, List.setIfInBounds_toArray, List.set_cons_zero, List.set_cons_succ]
                      refine rt_one 27 rfl (by as_aux_lemma => kernel_rfl) (fun K hK => ?_)
                      obtain ⟨Ac, cc, Wn, hr, hRn, hgn⟩ := app_flat (P := Try.prog) cmdFlat (xs := it.2.2.2.2) (n := it.2.2.2.2.length) (c := cb) 31 31 _ 32 Try.underlying31 info_cmd rfl (by decide) (by decide) hRc (Kd.C_below HCc.out (hFr.below (fun _ _ h => h))) (fun k hk => Nat.le_trans hFr.size hk) hFr.size (by have := HSS.out.2; omega)
                      refine step_builtin2 rfl rfl rfl rfl (bi_append hr) ?_
                      replace hRi := Kd.R_over' hRi (Kd.R_typed hRc) (by decide) hgn
                      try replace hBg := blk_grown hBg hgn (Kd.R_ne hRc hBg (by decide))
                      replace hFr := hFr.trans' (Fr.of_grown hgn) (fun i hi h => by have := Kd.R_base hRc i h.symm; omega)
                      clear hRc
                      have hRc := hRn
                      clear hRn
                      have hTn := HT.out _ hFr
                      refine hK.out (At St) _ _ (fun _ h => h) (fun _ => by (assumption)) ?_
                      clear hK K
                      try simp only [Act.put, List.setIfInBounds_toArray, List.set_cons_zero, List.set_cons_succ]
                      refine rt_free 28 (v := ?_) rfl (by as_aux_lemma => kernel_rfl) (by as_aux_lemma => kernel_rfl) (by as_aux_lemma => kernel_rfl) (by as_aux_lemma => kernel_rfl) (fun _ _ _ h => h) (by rfl) (fun _ => by first | assumption | exact HS0 _ rfl | exact HT.out _ (by repeat (first | exact Fr.refl _ _ | apply Fr.drew | refine Fr.alloc ?_ _))) ?_ ?_
                      rotate_left 1
                      · intro w; go_simp <;> with_reducible rfl
                      try simp only [Act.put, List.setIfInBounds_toArray, List.set_cons_zero, List.set_cons_succ]
                      refine rt_one 30 rfl (by as_aux_lemma => kernel_rfl) (fun K hK => ?_)
                      have b0 := Blk.cell hBg 0
                      have b1 := Blk.cell hBg 1
                      have b2 := Blk.cell hBg 2
                      have b3 := Blk.cell hBg 3
                      have b4 := Blk.cell hBg 4
                      have bf := Blk.frozen hBg
                      simp only [List.getElem?_toArray, List.getElem?_cons_zero, List.getElem?_cons_succ] at b0 b1 b2 b3 b4
                      go_simp
                      replace hRi := set5_R hRi hBg (by decide) (.int .i64 it.2.1.1) (.int .i64 it.2.1.2) (.int .i64 it.2.2.1) (.slice Ai it.2.2.2.1.length ci) (.slice Ac it.2.2.2.2.length cc)
                      replace hRc := set5_R hRc hBg (by decide) (.int .i64 it.2.1.1) (.int .i64 it.2.1.2) (.int .i64 it.2.2.1) (.slice Ai it.2.2.2.1.length ci) (.slice Ac it.2.2.2.2.length cc)
                      replace hFr := set5_Fr hFr hg3 (.int .i64 it.2.1.1) (.int .i64 it.2.1.2) (.int .i64 it.2.2.1) (.slice Ai it.2.2.2.1.length ci) (.slice Ac it.2.2.2.2.length cc)
                      replace hBg := set5 hBg (v0 := .int .i64 it.2.1.1) (v1 := .int .i64 it.2.1.2) (v2 := .int .i64 it.2.2.1) (v3 := .slice Ai it.2.2.2.1.length ci) (v4 := .slice Ac it.2.2.2.2.length cc)
                      clear b0 b1 b2 b3 b4 bf
                      generalize World.setCell _ _ _ = Wn at hRi hRc hBg hFr ⊢
                      refine hK.out (At St) _ _ (fun _ h => h) (late_abs (by as_aux_lemma => kernel_rfl)) ?_
                      clear hK K
                      try simp only [Act.put, List.setIfInBounds_toArray, List.set_cons_zero, List.set_cons_succ]
                      refine rt_done (by as_aux_lemma => kernel_rfl) ?_
                      all_goals exact cont _ _ _ _ _ _ _ _ hRi hRc hBg hg3 hFr
                    exact AllNextt.nil
                  refine AllNextt.cons rfl (fun K hK => ?_) ?_
                  · skip
                    go_simp
                    have hg3 := hFr.size
                    have hBg := Blk.new Wn 33 #[.int .i64 0, .int .i64 0, .int .i64 0, .slice none 0 0, .slice none 0 0]
                    replace hRi := Kd.R_alloc hRi (.cells #[.int .i64 0, .int .i64 0, .int .i64 0, .slice none 0 0, .slice none 0 0] 33)
                    replace hRc := Kd.R_alloc hRc (.cells #[.int .i64 0, .int .i64 0, .int .i64 0, .slice none 0 0, .slice none 0 0] 33)
                    replace hFr := hFr.alloc (.cells #[.int .i64 0, .int .i64 0, .int .i64 0, .slice none 0 0, .slice none 0 0] 33)
                    generalize Wn.heap.size = g3 at hBg hg3 ⊢
                    generalize World.alloc _ _ = Wn at hRi hRc hBg hFr ⊢
                    have hTn := HT.out _ hFr
                    refine hK.out (At St) _ _ (fun _ h => h) (fun _ => by (assumption)) ?_
                    clear hK K
                    try simp only [Act.put, List.setIfInBounds_toArray, List.set_cons_zero, List.set_cons_succ]
                    refine rt_one 19 rfl (by as_aux_lemma => kernel_rfl) (fun K hK => ?_)
                    obtain ⟨Ai, ci, Wn, hr, hRn, hgn⟩ := app_flat (P := Try.prog) idFlat (xs := it.2.2.2.1) (n := it.2.2.2.1.length) (c := cd) 30 30 _ 16 Try.underlying30 info_id rfl (by decide) (by decide) hRi (Kd.C_below HCi.out (hFr.below (fun _ _ h => h))) (fun k hk => Nat.le_trans hFr.size hk) hFr.size (by have := HSS.out.1; omega)
                    refine step_builtin2 rfl rfl rfl rfl (bi_append hr) ?_
                    replace hRc := Kd.R_over' hRc (Kd.R_typed hRi) (by decide) hgn
                    try replace hBg := blk_grown hBg hgn (Kd.R_ne hRi hBg (by decide))
                    replace hFr := hFr.trans' (Fr.of_grown hgn) (fun i hi h => by have := Kd.R_base hRi i h.symm; omega)
                    clear hRi
                    have hRi := hRn
                    clear hRn
                    have hTn := HT.out _ hFr
                    refine hK.out (At St) _ _ (fun _ h => h) (fun _ => by (assumption)) ?_
                    clear hK K
                    try simp only [Act.put, List.setIfInBounds_toArray, List.set_cons_zero, List.set_cons_succ]
                    refine rt_one 27 rfl (by as_aux_lemma => kernel_rfl) (fun K hK => ?_)
                    obtain ⟨Ac, cc, Wn, hr, hRn, hgn⟩ := app_flat (P := Try.prog) cmdFlat (xs := it.2.2.2.2) (n := it.2.2.2.2.length) (c := cb) 31 31 _ 32 Try.underlying31 info_cmd rfl (by decide) (by decide) hRc (Kd.C_below HCc.out (hFr.below (fun _ _ h => h))) (fun k hk => Nat.le_trans hFr.size hk) hFr.size (by have := HSS.out.2; omega)
                    refine step_builtin2 rfl rfl rfl rfl (bi_append hr) ?_
                    replace hRi := Kd.R_over' hRi (Kd.R_typed hRc) (by decide) hgn
                    try replace hBg := blk_grown hBg hgn (Kd.R_ne hRc hBg (by decide))
                    replace hFr := hFr.trans' (Fr.of_grown hgn) (fun i hi h => by have := Kd.R_base hRc i h.symm; omega)
                    clear hRc
                    have hRc := hRn
                    clear hRn
                    have hTn := HT.out _ hFr
                    refine hK.out (At St) _ _ (fun _ h => h) (fun _ => by (assumption)) ?_
                    clear hK K
                    try simp only [Act.put, List.setIfInBounds_toArray, List.set_cons_zero, List.set_cons_succ]
                    refine rt_free 28 (v := ?_) rfl (by as_aux_lemma => kernel_rfl) (by as_aux_lemma => kernel_rfl) (by as_aux_lemma => kernel_rfl) (by as_aux_lemma => kernel_rfl) (fun _ _ _ h => h) (by rfl) (fun _ => by first | assumption | exact HS0 _ rfl | exact HT.out _ (by repeat (first | exact Fr.refl _ _ | apply Fr.drew | refine Fr.alloc ?_ _))) ?_ ?_
                    rotate_left 1
                    · intro w; go_simp <;> with_reducible rfl
                    try simp only [Act.put, List.setIfInBounds_toArray, List.set_cons_zero, List.set_cons_succ]
                    refine rt_one 30 rfl (by as_aux_lemma => kernel_rfl) (fun K hK => ?_)
                    have b0 := Blk.cell hBg 0
                    have b1 := Blk.cell hBg 1
                    have b2 := Blk.cell hBg 2
                    have b3 := Blk.cell hBg 3
                    have b4 := Blk.cell hBg 4
                    have bf := Blk.frozen hBg
                    simp only [List.getElem?_toArray, List.getElem?_cons_zero, List.getElem?_cons_succ] at b0 b1 b2 b3 b4
                    go_simp
                    replace hRi := set5_R hRi hBg (by decide) (.int .i64 it.2.1.1) (.int .i64 it.2.1.2) (.int .i64 it.2.2.1) (.slice Ai it.2.2.2.1.length ci) (.slice Ac it.2.2.2.2.length cc)
                    replace hRc := set5_R hRc hBg (by decide) (.int .i64 it.2.1.1) (.int .i64 it.2.1.2) (.int .i64 it.2.2.1) (.slice Ai it.2.2.2.1.length ci) (.slice Ac it.2.2.2.2.length cc)
                    replace hFr := set5_Fr hFr hg3 (.int .i64 it.2.1.1) (.int .i64 it.2.1.2) (.int .i64 it.2.2.1) (.slice Ai it.2.2.2.1.length ci) (.slice Ac it.2.2.2.2.length cc)
                    replace hBg := set5 hBg (v0 := .int .i64 it.2.1.1) (v1 := .int .i64 it.2.1.2) (v2 := .int .i64 it.2.2.1) (v3 := .slice Ai it.2.2.2.1.length ci) (v4 := .slice Ac it.2.2.2.2.length cc)
                    clear b0 b1 b2 b3 b4 bf
                    generalize World.setCell _ _ _ = Wn at hRi hRc hBg hFr ⊢
                    refine hK.out (At St) _ _ (fun _ h => h) (late_abs (by as_aux_lemma => kernel_rfl)) ?_
                    clear hK K
                    try simp only [Act.put, List.setIfInBounds_toArray, List.set_cons_zero, List.set_cons_succ]
                    refine rt_done (by as_aux_lemma => kernel_rfl) ?_
                    all_goals exact cont _ _ _ _ _ _ _ _ hRi hRc hBg hg3 hFr
                  exact AllNextt.nil
                refine AllNextt.cons rfl (fun K hK => ?_) ?_
                · skip
                  go_simp
                  have hg3 := hFr.size
                  have hBg := Blk.new Wn 33 #[.int .i64 0, .int .i64 0, .int .i64 0, .slice none 0 0, .slice none 0 0]
                  replace hRi := Kd.R_alloc hRi (.cells #[.int .i64 0, .int .i64 0, .int .i64 0, .slice none 0 0, .slice none 0 0] 33)
                  replace hRc := Kd.R_alloc hRc (.cells #[.int .i64 0, .int .i64 0, .int .i64 0, .slice none 0 0, .slice none 0 0] 33)
                  replace hFr := hFr.alloc (.cells #[.int .i64 0, .int .i64 0, .int .i64 0, .slice none 0 0, .slice none 0 0] 33)
                  generalize Wn.heap.size = g3 at hBg hg3 ⊢
                  generalize World.alloc _ _ = Wn at hRi hRc hBg hFr ⊢
                  have hTn := HT.out _ hFr
                  refine hK.out (At St) _ _ (fun _ h => h) (fun _ => by (assumption)) ?_
                  clear hK K
                  try simp only [Act.put, List.setIfInBounds_toArray, List.set_cons_zero, List.set_cons_succ]
                  refine rt_one 12 rfl (by as_aux_lemma => kernel_rfl) (fun K hK => ?_)
                  go_simp
                  have hn := Kd.R_mono (Kd.R_lower (R_empty idK 29 _) hFr.size) (ok' := fun k => wc.heap.size ≤ k) (fun k hk => Nat.le_trans hFr.size hk)
                  replace hRc := Kd.R_alloc hRc (.cells #[] 29)
                  try replace hBg := Blk.alloc hBg (.cells #[] 29)
                  replace hFr := hFr.alloc (.cells #[] 29)
                  clear hRi
                  have hRi := hn
                  clear hn
                  generalize Wn.heap.size = gi at hRi ⊢
                  first | generalize World.alloc _ _ = Wn at hRi hRc hBg hFr ⊢ | generalize World.alloc _ _ = Wn at hRi hRc hFr ⊢
                  have hTn := HT.out _ hFr
                  refine hK.out (At St) _ _ (fun _ h => h) (fun _ => by (assumption)) ?_
                  clear hK K
                  try simp only [Act.put, List.setIfInBounds_toArray, List.set_cons_zero, List.set_cons_succ]
                  refine rt_one 19 rfl (by as_aux_lemma => kernel_rfl) (fun K hK => ?_)
                  obtain ⟨Ai, ci, Wn, hr, hRn, hgn⟩ := app_flat (P := Try.prog) idFlat (xs := it.2.2.2.1) (n := it.2.2.2.1.length) (c := cd) 30 30 _ 16 Try.underlying30 info_id rfl (by decide) (by decide) hRi (Kd.C_below HCi.out (hFr.below (fun _ _ h => h))) (fun k hk => Nat.le_trans hFr.size hk) hFr.size (by have := HSS.out.1; omega)
                  refine step_builtin2 rfl rfl rfl rfl (bi_append hr) ?_
                  replace hRc := Kd.R_over' hRc (Kd.R_typed hRi) (by decide) hgn
                  try replace hBg := blk_grown hBg hgn (Kd.R_ne hRi hBg (by decide))
                  replace hFr := hFr.trans' (Fr.of_grown hgn) (fun i hi h => by have := Kd.R_base hRi i h.symm; omega)
                  clear hRi
                  have hRi := hRn
                  clear hRn
                  have hTn := HT.out _ hFr
                  refine hK.out (At St) _ _ (fun _ h => h) (fun _ => by (assumption)) ?_
                  clear hK K
                  try simp only [Act.put, List.setIfInBounds_toArray, List.set_cons_zero, List.set_cons_succ]
                  refine rt_one 27 rfl (by as_aux_lemma => kernel_rfl) (fun K hK => ?_)
                  obtain ⟨Ac, cc, Wn, hr, hRn, hgn⟩ := app_flat (P := Try.prog) cmdFlat (xs := it.2.2.2.2) (n := it.2.2.2.2.length) (c := cb) 31 31 _ 32 Try.underlying31 info_cmd rfl (by decide) (by decide) hRc (Kd.C_below HCc.out (hFr.below (fun _ _ h => h))) (fun k hk => Nat.le_trans hFr.size hk) hFr.size (by have := HSS.out.2; omega)
                  refine step_builtin2 rfl rfl rfl rfl (bi_append hr) ?_
                  replace hRi := Kd.R_over' hRi (Kd.R_typed hRc) (by decide) hgn
                  try replace hBg := blk_grown hBg hgn (Kd.R_ne hRc hBg (by decide))
                  replace hFr := hFr.trans' (Fr.of_grown hgn) (fun i hi h => by have := Kd.R_base hRc i h.symm; omega)
                  clear hRc
                  have hRc := hRn
                  clear hRn
                  have hTn := HT.out _ hFr
                  refine hK.out (At St) _ _ (fun _ h => h) (fun _ => by (assumption)) ?_
                  clear hK K
                  try simp only [Act.put, List.setIfInBounds_toArray, List.set_cons_zero, List.set_cons_succ]
                  refine rt_free 28 (v := ?_) rfl (by as_aux_lemma => kernel_rfl) (by as_aux_lemma => kernel_rfl) (by as_aux_lemma => kernel_rfl) (by as_aux_lemma => kernel_rfl) (fun _ _ _ h => h) (by rfl) (fun _ => by first | assumption | exact HS0 _ rfl | exact HT.out _ (by repeat (first | exact Fr.refl _ _ | apply Fr.drew | refine Fr.alloc ?_ _))) ?_ ?_
                  rotate_left 1
                  · intro w; go_simp <;> with_reducible rfl
                  try simp only [Act.put, List.setIfInBounds_toArray, List.set_cons_zero, List.set_cons_succ]
                  refine rt_one 30 rfl (by as_aux_lemma => kernel_rfl) (fun K hK => ?_)
                  have b0 := Blk.cell hBg 0
                  have b1 := Blk.cell hBg 1
                  have b2 := Blk.cell hBg 2
                  have b3 := Blk.cell hBg 3
                  have b4 := Blk.cell hBg 4
                  have bf := Blk.frozen hBg
                  simp only [List.getElem?_toArray, List.getElem?_cons_zero, List.getElem?_cons_succ] at b0 b1 b2 b3 b4
                  go_simp
                  replace hRi := set5_R hRi hBg (by decide) (.int .i64 it.2.1.1) (.int .i64 it.2.1.2) (.int .i64 it.2.2.1) (.slice Ai it.2.2.2.1.length ci) (.slice Ac it.2.2.2.2.length cc)
                  replace hRc := set5_R hRc hBg (by decide) (.int .i64 it.2.1.1) (.int .i64 it.2.1.2) (.int .i64 it.2.2.1) (.slice Ai it.2.2.2.1.length ci) (.slice Ac it.2.2.2.2.length cc)
                  replace hFr := set5_Fr hFr hg3 (.int .i64 it.2.1.1) (.int .i64 it.2.1.2) (.int .i64 it.2.2.1) (.slice Ai it.2.2.2.1.length ci) (.slice Ac it.2.2.2.2.length cc)
                  replace hBg := set5 hBg (v0 := .int .i64 it.2.1.1) (v1 := .int .i64 it.2.1.2) (v2 := .int .i64 it.2.2.1) (v3 := .slice Ai it.2.2.2.1.length ci) (v4 := .slice Ac it.2.2.2.2.length cc)
                  clear b0 b1 b2 b3 b4 bf
                  generalize World.setCell _ _ _ = Wn at hRi hRc hBg hFr ⊢
                  refine hK.out (At St) _ _ (fun _ h => h) (late_abs (by as_aux_lemma => kernel_rfl)) ?_
                  clear hK K
                  try simp only [Act.put, List.setIfInBounds_toArray, List.set_cons_zero, List.set_cons_succ]
                  refine rt_done (by as_aux_lemma => kernel_rfl) ?_
                  all_goals exact cont _ _ _ _ _ _ _ _ hRi hRc hBg hg3 hFr
                exact AllNextt.nil
              refine AllNextt.cons rfl (fun K hK => ?_) ?_
              · skip
                go_simp
                have hg3 := hFr.size
                have hBg := Blk.new Wn 33 #[.int .i64 0, .int .i64 0, .int .i64 0, .slice none 0 0, .slice none 0 0]
                replace hRi := Kd.R_alloc hRi (.cells #[.int .i64 0, .int .i64 0, .int .i64 0, .slice none 0 0, .slice none 0 0] 33)
                replace hRc := Kd.R_alloc hRc (.cells #[.int .i64 0, .int .i64 0, .int .i64 0, .slice none 0 0, .slice none 0 0] 33)
                replace hFr := hFr.alloc (.cells #[.int .i64 0, .int .i64 0, .int .i64 0, .slice none 0 0, .slice none 0 0] 33)
                generalize Wn.heap.size = g3 at hBg hg3 ⊢
                generalize World.alloc _ _ = Wn at hRi hRc hBg hFr ⊢
                have hTn := HT.out _ hFr
                refine hK.out (At St) _ _ (fun _ h => h) (fun _ => by (assumption)) ?_
                clear hK K
                try simp only [Act.put, List.setIfInBounds_toArray, List.set_cons_zero, List.set_cons_succ]
                refine rt_ready [12, 20] (by as_aux_lemma => kernel_rfl) (by simp) ?_
                refine AllNextt.cons rfl (fun K hK => ?_) ?_
                · skip
                  go_simp
                  have hn := Kd.R_mono (Kd.R_lower (R_empty idK 29 _) hFr.size) (ok' := fun k => wc.heap.size ≤ k) (fun k hk => Nat.le_trans hFr.size hk)
                  replace hRc := Kd.R_alloc hRc (.cells #[] 29)
                  try replace hBg := Blk.alloc hBg (.cells #[] 29)
                  replace hFr := hFr.alloc (.cells #[] 29)
                  clear hRi
                  have hRi := hn
                  clear hn
                  generalize Wn.heap.size = gi at hRi ⊢
                  first | generalize World.alloc _ _ = Wn at hRi hRc hBg hFr ⊢ | generalize World.alloc _ _ = Wn at hRi hRc hFr ⊢
                  have hTn := HT.out _ hFr
                  refine hK.out (At St) _ _ (fun _ h => h) (fun _ => by (assumption)) ?_
                  clear hK K
                  try simp only [Act.put, List.setIfInBounds_toArray, List.set_cons_zero, List.set_cons_succ]
                  refine rt_ready [19, 20] (by as_aux_lemma => kernel_rfl) (by simp) ?_
                  refine AllNextt.cons rfl (fun K hK => ?_) ?_
                  · skip
                    obtain ⟨Ai, ci, Wn, hr, hRn, hgn⟩ := app_flat (P := Try.prog) idFlat (xs := it.2.2.2.1) (n := it.2.2.2.1.length) (c := cd) 30 30 _ 16 Try.underlying30 info_id rfl (by decide) (by decide) hRi (Kd.C_below HCi.out (hFr.below (fun _ _ h => h))) (fun k hk => Nat.le_trans hFr.size hk) hFr.size (by have := HSS.out.1; omega)
                    refine step_builtin2 rfl rfl rfl rfl (bi_append hr) ?_
                    replace hRc := Kd.R_over' hRc (Kd.R_typed hRi) (by decide) hgn
                    try replace hBg := blk_grown hBg hgn (Kd.R_ne hRi hBg (by decide))
                    replace hFr := hFr.trans' (Fr.of_grown hgn) (fun i hi h => by have := Kd.R_base hRi i h.symm; omega)
                    clear hRi
                    have hRi := hRn
                    clear hRn
                    have hTn := HT.out _ hFr
                    refine hK.out (At St) _ _ (fun _ h => h) (fun _ => by (assumption)) ?_
                    clear hK K
                    try simp only [Act.put, List.setIfInBounds_toArray, List.set_cons_zero, List.set_cons_succ]
                    refine rt_one 20 rfl (by as_aux_lemma => kernel_rfl) (fun K hK => ?_)
                    go_simp
                    have hn := Kd.R_mono (Kd.R_lower (R_empty cmdK 54 _) hFr.size) (ok' := fun k => wc.heap.size ≤ k) (fun k hk => Nat.le_trans hFr.size hk)
                    replace hRi := Kd.R_alloc hRi (.cells #[] 54)
                    try replace hBg := Blk.alloc hBg (.cells #[] 54)
                    replace hFr := hFr.alloc (.cells #[] 54)
                    clear hRc
                    have hRc := hn
                    clear hn
                    generalize Wn.heap.size = gi at hRc ⊢
                    first | generalize World.alloc _ _ = Wn at hRi hRc hBg hFr ⊢ | generalize World.alloc _ _ = Wn at hRi hRc hFr ⊢
                    have hTn := HT.out _ hFr
                    refine hK.out (At St) _ _ (fun _ h => h) (fun _ => by (assumption)) ?_
                    clear hK K
                    try simp only [Act.put, List.setIfInBounds_toArray, List.set_cons_zero, List.set_cons_succ]
                    refine rt_one 27 rfl (by as_aux_lemma => kernel_rfl) (fun K hK => ?_)
                    obtain ⟨Ac, cc, Wn, hr, hRn, hgn⟩ := app_flat (P := Try.prog) cmdFlat (xs := it.2.2.2.2) (n := it.2.2.2.2.length) (c := cb) 31 31 _ 32 Try.underlying31 info_cmd rfl (by decide) (by decide) hRc (Kd.C_below HCc.out (hFr.below (fun _ _ h => h))) (fun k hk => Nat.le_trans hFr.size hk) hFr.size (by have := HSS.out.2; omega)
                    refine step_builtin2 rfl rfl rfl rfl (bi_append hr) ?_
                    replace hRi := Kd.R_over' hRi (Kd.R_typed hRc) (by decide) hgn
                    try replace hBg := blk_grown hBg hgn (Kd.R_ne hRc hBg (by decide))
                    replace hFr := hFr.trans' (Fr.of_grown hgn) (fun i hi h => by have := Kd.R_base hRc i h.symm; omega)
                    clear hRc
                    have hRc := hRn
                    clear hRn
                    have hTn := HT.out _ hFr
                    refine hK.out (At St) _ _ (fun _ h => h) (fun _ => by (assumption)) ?_
                    clear hK K
                    try simp only [Act.put, List.setIfInBounds_toArray, List.set_cons_zero, List.set_cons_succ]
                    refine rt_free 28 (v := ?_) rfl (by as_aux_lemma => kernel_rfl) (by as_aux_lemma => kernel_rfl) (by as_aux_lemma => kernel_rfl) (by as_aux_lemma => kernel_rfl) (fun _ _ _ h => h) (by rfl) (fun _ => by first | assumption | exact HS0 _ rfl | exact HT.out _ (by repeat (first | exact Fr.refl _ _ | apply Fr.drew | refine Fr.alloc ?_ _))) ?_ ?_
                    rotate_left 1
                    · intro w; go_simp <;> with_reducible rfl
                    try simp only [Act.put, List.setIfInBounds_toArray, List.set_cons_zero, List.set_cons_succ]
                    refine rt_one 30 rfl (by as_aux_lemma => kernel_rfl) (fun K hK => ?_)
                    have b0 := Blk.cell hBg 0
                    have b1 := Blk.cell hBg 1
                    have b2 := Blk.cell hBg 2
                    have b3 := Blk.cell hBg 3
                    have b4 := Blk.cell hBg 4
                    have bf := Blk.frozen hBg
                    simp only [List.getElem?_toArray, List.getElem?_cons_zero, List.getElem?_cons_succ] at b0 b1 b2 b3 b4
                    go_simp
                    replace hRi := set5_R hRi hBg (by decide) (.int .i64 it.2.1.1) (.int .i64 it.2.1.2) (.int .i64 it.2.2.1) (.slice Ai it.2.2.2.1.length ci) (.slice Ac it.2.2.2.2.length cc)
                    replace hRc := set5_R hRc hBg (by decide) (.int .i64 it.2.1.1) (.int .i64 it.2.1.2) (.int .i64 it.2.2.1) (.slice Ai it.2.2.2.1.length ci) (.slice Ac it.2.2.2.2.length cc)
                    replace hFr := set5_Fr hFr hg3 (.int .i64 it.2.1.1) (.int .i64 it.2.1.2) (.int .i64 it.2.2.1) (.slice Ai it.2.2.2.1.length ci) (.slice Ac it.2.2.2.2.length cc)
                    replace hBg := set5 hBg (v0 := .int .i64 it.2.1.1) (v1 := .int .i64 it.2.1.2) (v2 := .int .i64 it.2.2.1) (v3 := .slice Ai it.2.2.2.1.length ci) (v4 := .slice Ac it.2.2.2.2.length cc)
                    clear b0 b1 b2 b3 b4 bf
                    generalize World.setCell _ _ _ = Wn at hRi hRc hBg hFr ⊢
                    refine hK.out (At St) _ _ (fun _ h => h) (late_abs (by as_aux_lemma => kernel_rfl)) ?_
                    clear hK K
                    try simp only [Act.put, List.setIfInBounds_toArray, List.set_cons_zero, List.set_cons_succ]
                    refine rt_done (by as_aux_lemma => kernel_rfl) ?_
                    all_goals exact cont _ _ _ _ _ _ _ _ hRi hRc hBg hg3 hFr
                  refine AllNextt.cons rfl (fun K hK => ?_) ?_
                  · skip
                    go_simp
                    have hn := Kd.R_mono (Kd.R_lower (R_empty cmdK 54 _) hFr.size) (ok' := fun k => wc.heap.size ≤ k) (fun k hk => Nat.le_trans hFr.size hk)
                    replace hRi := Kd.R_alloc hRi (.cells #[] 54)
                    try replace hBg := Blk.alloc hBg (.cells #[] 54)
                    replace hFr := hFr.alloc (.cells #[] 54)
                    clear hRc
                    have hRc := hn
                    clear hn
                    generalize Wn.heap.size = gi at hRc ⊢
                    first | generalize World.alloc _ _ = Wn at hRi hRc hBg hFr ⊢ | generalize World.alloc _ _ = Wn at hRi hRc hFr ⊢
                    have hTn := HT.out _ hFr
                    refine hK.out (At St) _ _ (fun _ h => h) (fun _ => by (assumption)) ?_
                    clear hK K
                    try simp only [Act.put, List.setIfInBounds_toArray, List.set_cons_zero, List.set_cons_succ]
                    refine rt_one 19 rfl (by as_aux_lemma => kernel_rfl) (fun K hK => ?_)
                    obtain ⟨Ai, ci, Wn, hr, hRn, hgn⟩ := app_flat (P := Try.prog) idFlat (xs := it.2.2.2.1) (n := it.2.2.2.1.length) (c := cd) 30 30 _ 16 Try.underlying30 info_id rfl (by decide) (by decide) hRi (Kd.C_below HCi.out (hFr.below (fun _ _ h => h))) (fun k hk => Nat.le_trans hFr.size hk) hFr.size (by have := HSS.out.1; omega)
                    refine step_builtin2 rfl rfl rfl rfl (bi_append hr) ?_
                    replace hRc := Kd.R_over' hRc (Kd.R_typed hRi) (by decide) hgn
                    try replace hBg := blk_grown hBg hgn (Kd.R_ne hRi hBg (by decide))
                    replace hFr := hFr.trans' (Fr.of_grown hgn) (fun i hi h => by have := Kd.R_base hRi i h.symm; omega)
                    clear hRi
                    have hRi := hRn
                    clear hRn
                    have hTn := HT.out _ hFr
                    refine hK.out (At St) _ _ (fun _ h => h) (fun _ => by (assumption)) ?_
                    clear hK K
                    try simp only [Act.put, List.setIfInBounds_toArray, List.set_cons_zero, List.set_cons_succ]
                    refine rt_one 27 rfl (by as_aux_lemma => kernel_rfl) (fun K hK => ?_)
                    obtain ⟨Ac, cc, Wn, hr, hRn, hgn⟩ := app_flat (P := Try.prog) cmdFlat (xs := it.2.2.2.2) (n := it.2.2.2.2.length) (c := cb) 31 31 _ 32 Try.underlying31 info_cmd rfl (by decide) (by decide) hRc (Kd.C_below HCc.out (hFr.below (fun _ _ h => h))) (fun k hk => Nat.le_trans hFr.size hk) hFr.size (by have := HSS.out.2; omega)
                    refine step_builtin2 rfl rfl rfl rfl (bi_append hr) ?_
                    replace hRi := Kd.R_over' hRi (Kd.R_typed hRc) (by decide) hgn
                    try replace hBg := blk_grown hBg hgn (Kd.R_ne hRc hBg (by decide))
                    replace hFr := hFr.trans' (Fr.of_grown hgn) (fun i hi h => by have := Kd.R_base hRc i h.symm; omega)
                    clear hRc
                    have hRc := hRn
                    clear hRn
                    have hTn := HT.out _ hFr
                    refine hK.out (At St) _ _ (fun _ h => h) (fun _ => by (assumption)) ?_
                    clear hK K
                    try simp only [Act.put, List.setIfInBounds_toArray, List.set_cons_zero, List.set_cons_succ]
                    refine rt_free 28 (v := ?_) rfl (by as_aux_lemma => kernel_rfl) (by as_aux_lemma => kernel_rfl) (by as_aux_lemma => kernel_rfl) (by as_aux_lemma => kernel_rfl) (fun _ _ _ h => h) (by rfl) (fun _ => by first | assumption | exact HS0 _ rfl | exact HT.out _ (by repeat (first | exact Fr.refl _ _ | apply Fr.drew | refine Fr.alloc ?_ _))) ?_ ?_
                    rotate_left 1
                    · intro w; go_simp <;> with_reducible rfl
                    try simp only [Act.put, List.setIfInBounds_toArray, List.set_cons_zero, List.set_cons_succ]
                    refine rt_one 30 rfl (by as_aux_lemma => kernel_rfl) (fun K hK => ?_)
                    have b0 := Blk.cell hBg 0
                    have b1 := Blk.cell hBg 1
                    have b2 := Blk.cell hBg 2
                    have b3 := Blk.cell hBg 3
                    have b4 := Blk.cell hBg 4
                    have bf := Blk.frozen hBg
                    simp only [List.getElem?_toArray, List.getElem?_cons_zero, List.getElem?_cons_succ] at b0 b1 b2 b3 b4
                    go_simp
                    replace hRi := set5_R hRi hBg (by decide) (.int .i64 it.2.1.1) (.int .i64 it.2.1.2) (.int .i64 it.2.2.1) (.slice Ai it.2.2.2.1.length ci) (.slice Ac it.2.2.2.2.length cc)
                    replace hRc := set5_R hRc hBg (by decide) (.int .i64 it.2.1.1) (.int .i64 it.2.1.2) (.int .i64 it.2.2.1) (.slice Ai it.2.2.2.1.length ci) (.slice Ac it.2.2.2.2.length cc)
                    replace hFr := set5_Fr hFr hg3 (.int .i64 it.2.1.1) (.int .i64 it.2.1.2) (.int .i64 it.2.2.1) (.slice Ai it.2.2.2.1.length ci) (.slice Ac it.2.2.2.2.length cc)
                    replace hBg := set5 hBg (v0 := .int .i64 it.2.1.1) (v1 := .int .i64 it.2.1.2) (v2 := .int .i64 it.2.2.1) (v3 := .slice Ai it.2.2.2.1.length ci) (v4 := .slice Ac it.2.2.2.2.length cc)
                    clear b0 b1 b2 b3 b4 bf
                    generalize World.setCell _ _ _ = Wn at hRi hRc hBg hFr ⊢
                    refine hK.out (At St) _ _ (fun _ h => h) (late_abs (by as_aux_lemma => kernel_rfl)) ?_
                    clear hK K
                    try simp only [Act.put, List.setIfInBounds_toArray, List.set_cons_zero, List.set_cons_succ]
                    refine rt_done (by as_aux_lemma => kernel_rfl) ?_
                    all_goals exact cont _ _ _ _ _ _ _ _ hRi hRc hBg hg3 hFr
                  exact AllNextt.nil
                refine AllNextt.cons rfl (fun K hK => ?_) ?_
                · skip
                  go_simp
                  have hn := Kd.R_mono (Kd.R_lower (R_empty cmdK 54 _) hFr.size) (ok' := fun k => wc.heap.size ≤ k) (fun k hk => Nat.le_trans hFr.size hk)
                  replace hRi := Kd.R_alloc hRi (.cells #[] 54)
                  try replace hBg := Blk.alloc hBg (.cells #[] 54)
                  replace hFr := hFr.alloc (.cells #[] 54)
                  clear hRc
                  have hRc := hn
                  clear hn
                  generalize Wn.heap.size = gi at hRc ⊢
                  first | generalize World.alloc _ _ = Wn at hRi hRc hBg hFr ⊢ | generalize World.alloc _ _ = Wn at hRi hRc hFr ⊢
                  have hTn := HT.out _ hFr
                  refine hK.out (At St) _ _ (fun _ h => h) (fun _ => by (assumption)) ?_
                  clear hK K
                  try simp only [Act.put, List.setIfInBounds_toArray, List.set_cons_zero, List.set_cons_succ]
                  refine rt_one 12 rfl (by as_aux_lemma => kernel_rfl) (fun K hK => ?_)
                  go_simp
                  have hn := Kd.R_mono (Kd.R_lower (R_empty idK 29 _) hFr.size) (ok' := fun k => wc.heap.size ≤ k) (fun k hk => Nat.le_trans hFr.size hk)
                  replace hRc := Kd.R_alloc hRc (.cells #[] 29)
                  try replace hBg := Blk.alloc hBg (.cells #[] 29)
                  replace hFr := hFr.alloc (.cells #[] 29)
                  clear hRi
                  have hRi := hn
                  clear hn
                  generalize Wn.heap.size = gi at hRi ⊢
                  first | generalize World.alloc _ _ = Wn at hRi hRc hBg hFr ⊢ | generalize World.alloc _ _ = Wn at hRi hRc hFr ⊢
                  have hTn := HT.out _ hFr
                  refine hK.out (At St) _ _ (fun _ h => h) (fun _ => by (assumption)) ?_
                  clear hK K
                  try simp only [Act.put, List.setIfInBounds_toArray, List.set_cons_zero, List.set_cons_succ]
                  refine rt_one 19 rfl (by as_aux_lemma => kernel_rfl) (fun K hK => ?_)
                  obtain ⟨Ai, ci, Wn, hr, hRn, hgn⟩ := app_flat (P := Try.prog) idFlat (xs := it.2.2.2.1) (n := it.2.2.2.1.length) (c := cd) 30 30 _ 16 Try.underlying30 info_id rfl (by decide) (by decide) hRi (Kd.C_below HCi.out (hFr.below (fun _ _ h => h))) (fun k hk => Nat.le_trans hFr.size hk) hFr.size (by have := HSS.out.1; omega)
                  refine step_builtin2 rfl rfl rfl rfl (bi_append hr) ?_
                  replace hRc := Kd.R_over' hRc (Kd.R_typed hRi) (by decide) hgn
                  try replace hBg := blk_grown hBg hgn (Kd.R_ne hRi hBg (by decide))
                  replace hFr := hFr.trans' (Fr.of_grown hgn) (fun i hi h => by have := Kd.R_base hRi i h.symm; omega)
                  clear hRi
                  have hRi := hRn
                  clear hRn
                  have hTn := HT.out _ hFr
                  refine hK.out (At St) _ _ (fun _ h => h) (fun _ => by (assumption)) ?_
                  clear hK K
                  try simp only [Act.put, List.setIfInBounds_toArray, List.set_cons_zero, List.set_cons_succ]
                  refine rt_one 27 rfl (by as_aux_lemma => kernel_rfl) (fun K hK => ?_)
                  obtain ⟨Ac, cc, Wn, hr, hRn, hgn⟩ := app_flat (P := Try.prog) cmdFlat (xs := it.2.2.2.2) (n := it.2.2.2.2.length) (c := cb) 31 31 _ 32 Try.underlying31 info_cmd rfl (by decide) (by decide) hRc (Kd.C_below HCc.out (hFr.below (fun _ _ h => h))) (fun k hk => Nat.le_trans hFr.size hk) hFr.size (by have := HSS.out.2; omega)
                  refine step_builtin2 rfl rfl rfl rfl (bi_append hr) ?_
                  replace hRi := Kd.R_over' hRi (Kd.R_typed hRc) (by decide) hgn
                  try replace hBg := blk_grown hBg hgn (Kd.R_ne hRc hBg (by decide))
                  replace hFr := hFr.trans' (Fr.of_grown hgn) (fun i hi h => by have := Kd.R_base hRc i h.symm; omega)
                  clear hRc
                  have hRc := hRn
                  clear hRn
                  have hTn := HT.out _ hFr
                  refine hK.out (At St) _ _ (fun _ h => h) (fun _ => by (assumption)) ?_
                  clear hK K
                  try simp only [Act.put, List.setIfInBounds_toArray, List.set_cons_zero, List.set_cons_succ]
                  refine rt_free 28 (v := ?_) rfl (by as_aux_lemma => kernel_rfl) (by as_aux_lemma => kernel_rfl) (by as_aux_lemma => kernel_rfl) (by as_aux_lemma => kernel_rfl) (fun _ _ _ h => h) (by rfl) (fun _ => by first | assumption | exact HS0 _ rfl | exact HT.out _ (by repeat (first | exact Fr.refl _ _ | apply Fr.drew | refine Fr.alloc ?_ _))) ?_ ?_
                  rotate_left 1
                  · intro w; go_simp <;> with_reducible rfl
                  try simp only [Act.put, List.setIfInBounds_toArray, List.set_cons_zero, List.set_cons_succ]
                  refine rt_one 30 rfl (by as_aux_lemma => kernel_rfl) (fun K hK => ?_)
                  have b0 := Blk.cell hBg 0
                  have b1 := Blk.cell hBg 1
                  have b2 := Blk.cell hBg 2
                  have b3 := Blk.cell hBg 3
                  have b4 := Blk.cell hBg 4
                  have bf := Blk.frozen hBg
                  simp only [List.getElem?_toArray, List.getElem?_cons_zero, List.getElem?_cons_succ] at b0 b1 b2 b3 b4
                  go_simp
                  replace hRi := set5_R hRi hBg (by decide) (.int .i64 it.2.1.1) (.int .i64 it.2.1.2) (.int .i64 it.2.2.1) (.slice Ai it.2.2.2.1.length ci) (.slice Ac it.2.2.2.2.length cc)
                  replace hRc := set5_R hRc hBg (by decide) (.int .i64 it.2.1.1) (.int .i64 it.2.1.2) (.int .i64 it.2.2.1) (.slice Ai it.2.2.2.1.length ci) (.slice Ac it.2.2.2.2.length cc)
                  replace hFr := set5_Fr hFr hg3 (.int .i64 it.2.1.1) (.int .i64 it.2.1.2) (.int .i64 it.2.2.1) (.slice Ai it.2.2.2.1.length ci) (.slice Ac it.2.2.2.2.length cc)
                  replace hBg := set5 hBg (v0 := .int .i64 it.2.1.1) (v1 := .int .i64 it.2.1.2) (v2 := .int .i64 it.2.2.1) (v3 := .slice Ai it.2.2.2.1.length ci) (v4 := .slice Ac it.2.2.2.2.length cc)
                  clear b0 b1 b2 b3 b4 bf
                  generalize World.setCell _ _ _ = Wn at hRi hRc hBg hFr ⊢
                  refine hK.out (At St) _ _ (fun _ h => h) (late_abs (by as_aux_lemma => kernel_rfl)) ?_
                  clear hK K
                  try simp only [Act.put, List.setIfInBounds_toArray, List.set_cons_zero, List.set_cons_succ]
                  refine rt_done (by as_aux_lemma => kernel_rfl) ?_
                  all_goals exact cont _ _ _ _ _ _ _ _ hRi hRc hBg hg3 hFr
                exact AllNextt.nil
              exact AllNextt.nil
            intro v80 v88 A1 A2 c1 c2 g3 W3 hR1 hR2 hB3 hg3 hFW
            have HB3 := Lib.hid hB3
            have HFW := Lib.hid hFW
            have HG3 := Lib.hid hg3
            have SA : ∀ b, A1 = some ⟨b, 0, none⟩ → wc.heap.size ≤ b ∧ b < W3.heap.size ∧ b ≠ g3 := fun b hb => by
              have h1 := Kd.R_base hR1 b (by rw [hb]; rfl)
              have h2 := Kd.R_lt hR1 b (by rw [hb]; rfl)
              exact ⟨h1, h2, fun e => Kd.R_ne hR1 hB3 (by decide) (by rw [hb, e]; rfl)⟩
            have OA : it.2.2.2.1.length = 0 ∨ ∃ b cells, A1 = some ⟨b, 0, none⟩ ∧ Blk W3 b 29 cells ∧ it.2.2.2.1.length * 2 ≤ cells.size := by
              obtain ⟨inner, ho⟩ := Kd.R_own hR1
              rcases ho.2 with ⟨_, h0⟩ | ⟨b, cap, cur, hv, _, hg, hcap, _, hsz, _⟩
              · exact .inl h0
              · injection hv with hv _ _
                refine .inr ⟨b, cur, hv, hg, ?_⟩
                rw [hsz]
                exact Nat.mul_le_mul_right 2 hcap
            have HRE := Lib.hid (show ∀ w', Fr S' W3 w' → RecAt w' it.2 A1 A2 c1 c2 from fun w' h => by
              have h1 := Kd.R_step hR1 (fun b hb hl => h.block b hl (fun hs => by have h3 := HV.out.lt b hs; have h4 : wc.heap.size ≤ b := hb; omega))
              have h2 := Kd.R_step hR2 (fun b hb hl => h.block b hl (fun hs => by have h3 := HV.out.lt b hs; have h4 : wc.heap.size ≤ b := hb; omega))
              exact ⟨(Kd.R_reads' h1).2.1, (Kd.R_reads' h2).2.1, (Kd.R_reads' h1).2.2, (Kd.R_reads' h2).2.2⟩)
            have HSA := Lib.hid SA
            have HOA := Lib.hid OA
            have HVw := Lib.hid (HV.out.fr hFW (fun _ _ h => h))
            obtain ⟨St, hSt⟩ : ∃ St : World → Prop, St = Fr S' W3 := ⟨_, rfl⟩
            have HT := Lib.hid (show ∀ w', Fr S' W3 w' → At St w' from fun w' h => by unfold At; rw [hSt]; exact h)
            have lift : ∀ (q : Addr) (u : Value), ¬ S' q.block → W3.cell? q = some u → ∀ w', At St w' → w'.cell? q = some u := fun q u hn hq w' h => by replace h := h.out; rw [hSt] at h; exact h.cell hq hn
            have l0 := lift _ _ (fun hs => by have h1 := World.block_lt_of_cell? w _ H0.out; have h2 := HS.out _ hs; omega) (hFW.cell (HG.out.cell H0.out (fun h => h)) (fun h => h))
            have ng : ¬ S' g3 := fun hs => by have h3 := HV.out.lt _ hs; omega
            have b0 := lift ⟨g3, 0, none⟩ _ ng (hB3.cell 0)
            have b1 := lift ⟨g3, 1, none⟩ _ ng (hB3.cell 1)
            have b2 := lift ⟨g3, 2, none⟩ _ ng (hB3.cell 2)
            have b3 := lift ⟨g3, 3, none⟩ _ ng (hB3.cell 3)
            have b4 := lift ⟨g3, 4, none⟩ _ ng (hB3.cell 4)
            have hT0 := HT.out W3.drew ((Fr.refl (fun _ => False) _).drew.mono (fun _ _ h => h.elim))
            clear ng
            clear hR1 hR2 hB3 hg3 hFW SA OA hSt lift
            refine hK0 _ _ ?_
            go_wp2_with fail
            refine rt_start [] (At St) 8 (by as_aux_lemma => kernel_rfl) rfl ?_
            refine rt_free 0 (v := ?_) rfl (by as_aux_lemma => kernel_rfl) (by as_aux_lemma => kernel_rfl) (by as_aux_lemma => kernel_rfl) (by as_aux_lemma => kernel_rfl) (fun _ _ _ h => h) (by rfl) (fun _ => by first | assumption | exact HS0 _ rfl | exact HT.out _ (by repeat (first | exact Fr.refl _ _ | apply Fr.drew | refine Fr.alloc ?_ _))) ?_ ?_
            rotate_left 1
            · intro w; go_simp <;> with_reducible rfl
            try simp only [Act.put, List.setIfInBounds_toArray, List.set_cons_zero, List.set_cons_succ]
            refine rt_free 1 (v := ?_) rfl (by as_aux_lemma => kernel_rfl) (by as_aux_lemma => kernel_rfl) (by as_aux_lemma => kernel_rfl) (by as_aux_lemma => kernel_rfl) (fun _ _ _ h => h) (by rfl) (fun _ => by first | assumption | exact HS0 _ rfl | exact HT.out _ (by repeat (first | exact Fr.refl _ _ | apply Fr.drew | refine Fr.alloc ?_ _))) ?_ ?_
            rotate_left 1
            · intro w; go_simp <;> with_reducible rfl
            try simp only [Act.put, List.setIfInBounds_toArray, List.set_cons_zero, List.set_cons_succ]
            refine rt_free 2 (v := ?_) rfl (by as_aux_lemma => kernel_rfl) (by as_aux_lemma => kernel_rfl) (by as_aux_lemma => kernel_rfl) (by as_aux_lemma => kernel_rfl) (fun _ _ _ h => h) (by rfl) (fun _ => by first | assumption | exact HS0 _ rfl | exact HT.out _ (by repeat (first | exact Fr.refl _ _ | apply Fr.drew | refine Fr.alloc ?_ _))) ?_ ?_
            rotate_left 1
            · intro w; go_simp <;> with_reducible rfl
            try simp only [Act.put, List.setIfInBounds_toArray, List.set_cons_zero, List.set_cons_succ]
            refine rt_free 3 (v := ?_) rfl (by as_aux_lemma => kernel_rfl) (by as_aux_lemma => kernel_rfl) (by as_aux_lemma => kernel_rfl) (by as_aux_lemma => kernel_rfl) (fun _ _ _ h => h) (by rfl) (fun _ => by first | assumption | exact HS0 _ rfl | exact HT.out _ (by repeat (first | exact Fr.refl _ _ | apply Fr.drew | refine Fr.alloc ?_ _))) ?_ ?_
            rotate_left 1
            · intro w; go_simp <;> with_reducible rfl
            try simp only [Act.put, List.setIfInBounds_toArray, List.set_cons_zero, List.set_cons_succ]
            refine rt_free 4 (v := ?_) rfl (by as_aux_lemma => kernel_rfl) (by as_aux_lemma => kernel_rfl) (by as_aux_lemma => kernel_rfl) (by as_aux_lemma => kernel_rfl) (fun _ _ _ h => h) (by rfl) (fun _ => by first | assumption | exact HS0 _ rfl | exact HT.out _ (by repeat (first | exact Fr.refl _ _ | apply Fr.drew | refine Fr.alloc ?_ _))) ?_ ?_
            rotate_left 1
            · intro w; go_simp <;> with_reducible rfl
            try simp only [Act.put, List.setIfInBounds_toArray, List.set_cons_zero, List.set_cons_succ]
            refine rt_take 5 (v := ?_) rfl (by as_aux_lemma => kernel_rfl) (by as_aux_lemma => kernel_rfl) (by as_aux_lemma => kernel_rfl) (by as_aux_lemma => kernel_rfl) (fun _ _ _ h => h) (by rfl) (by first | assumption | exact HS0 _ rfl | exact HT.out _ (by repeat (first | exact Fr.refl _ _ | apply Fr.drew | refine Fr.alloc ?_ _))) ?_ ?_
            rotate_left 1
            · intro w hSw; go_simp <;> with_reducible rfl
            try simp only [Act.put, List.setIfInBounds_toArray, List.set_cons_zero, List.set_cons_succ]
            refine rt_take 6 (v := ?_) rfl (by as_aux_lemma => kernel_rfl) (by as_aux_lemma => kernel_rfl) (by as_aux_lemma => kernel_rfl) (by as_aux_lemma => kernel_rfl) (fun _ _ _ h => h) (by rfl) (by first | assumption | exact HS0 _ rfl | exact HT.out _ (by repeat (first | exact Fr.refl _ _ | apply Fr.drew | refine Fr.alloc ?_ _))) ?_ ?_
            rotate_left 1
            · intro w hSw; go_simp <;> with_reducible rfl
            try simp only [Act.put, List.setIfInBounds_toArray, List.set_cons_zero, List.set_cons_succ]
            refine rt_one 7 rfl (by as_aux_lemma => kernel_rfl) (fun K hK => ?_)
            go_simp
            refine (led_note g' S' _ _ it.1 it.2 A1 A2 c1 c2 _ (HVw.out.fr (Fr.refl _ _).drew (fun _ _ h => h)) HGD.out.1 (fun w' hF' => HRE.out w' (((Fr.refl (fun _ => False) W3).drew.mono (fun _ _ h => h.elim)).trans hF')) (by have := HSS.out.1; omega) (by have := HSS.out.2; omega) (Nat.le_trans HEL.out (by omega)) (Nat.le_trans HKL.out (by omega))).mono ?_
            rintro r W4 ⟨rfl, Sn, hV4, hSn, hF4⟩
            rw [← HES.out, ← HKS.out] at hV4
            have hF4 : Fr S' W3 W4 := ((Fr.refl (fun _ => False) W3).drew.mono (fun _ _ h => h.elim)).trans hF4
            have hSn : ∀ b, Sn b → S' b ∨ W3.heap.size ≤ b := hSn
            have hT4 := HT.out _ hF4
            have hG2 : Fr S' wc W4 := (HFW.out.mono (fun _ _ h => h.elim)).trans hF4
            have hW3 := HFW.out.size
            have hwW := HG.out.size
            have HS4 := Lib.hid (show ∀ b, Sn b → w.heap.size ≤ b from fun b hb => (hSn b hb).elim (HS.out b) (fun h => by omega))
            have HG4 := Lib.hid (HG.out.trans' hG2 (fun i hi h => by have := HS.out i h; omega))
            have HR4 := Lib.hid (show (recF w).R 33 W4 w.heap.size (fun b => ¬ Sn b ∧ w.heap.size ≤ b ∧ (b < wc.heap.size ∨ W4.heap.size ≤ b)) u8 (keptE (L.take k)) from Kd.R_mono (Kd.R_step (Kd.R_bound HR.out) (fun b hb hl => hG2.block b hl hb.1.1)) (fun b hb => ⟨fun h4 => (hSn b h4).elim hb.1.1 (fun h => by have := hb.2.2.1; omega), hb.1.2, .inl hb.2.2.1⟩))
            have HB4 := Lib.hid (HB3.out.fr hF4 (fun hs => by have h3 := HV.out.lt _ hs; have := HG3.out; omega))
            have HOA4 := Lib.hid (show it.2.2.2.1.length = 0 ∨ ∃ b cells, A1 = some ⟨b, 0, none⟩ ∧ Blk W4 b 29 cells ∧ it.2.2.2.1.length * 2 ≤ cells.size from HOA.out.elim .inl (fun ⟨b, cells, hb, hB, hs⟩ => .inr ⟨b, cells, hb, hB.fr hF4 (fun h => by have h3 := HV.out.lt _ h; have := (HSA.out b hb).1; omega), hs⟩))
            have HV4 := Lib.hid hV4
            have HSN := Lib.hid hSn
            have HSZ4 := Lib.hid hF4.size
            have HSD := Lib.hid (show ∀ b, Sn b → ¬ A1 = some ⟨b, 0, none⟩ from fun b hb e => (hSn b hb).elim (fun h => by have h3 := HV.out.lt _ h; have := (HSA.out b e).1; omega) (fun h => by have := (HSA.out b e).2.1; omega))
            have HRD := Lib.hid (show ∀ b, (b < wc.heap.size ∨ W4.heap.size ≤ b) → ¬ A1 = some ⟨b, 0, none⟩ from fun b hb e => by have := HSA.out b e; have := HSZ4.out; omega)
            have HWD := Lib.hid (show ∀ b, b < w.heap.size → ¬ A1 = some ⟨b, 0, none⟩ from fun b hb e => by have := HSA.out b e; omega)
            clear hV4 hSn hF4 hG2 hW3 hwW l0 b0 b1 b2 b3 b4 hT0 HVw HRE HOA
            go_wp2_with fail
            refine hK.out (At St) _ _ (fun _ h => h) (fun _ => by (assumption)) ?_
            clear hK K
            try simp only [Act.put, List.setIfInBounds_toArray, List.set_cons_zero, List.set_cons_succ]
            refine rt_done (by as_aux_lemma => kernel_rfl) ?_
            have a0 := HG4.out.cell H0.out (fun h => h)
            by_cases he : it.1 = 0
            · have teq : (it.1 == 0) = true := by simpa using he
              have ted : decide (it.1 = 0) = true := decide_eq_true he
              have HKN := Lib.hid (show keptE (L.take (k + 1)) = keptE (L.take k) ++ [it.2] from by rw [HKS.out, if_pos he])
              have a1 := HG4.out.cell H1.out (fun h => h)
              have a2 := HG4.out.cell H2.out (fun h => h)
              have a3 := HG4.out.cell H3.out (fun h => h)
              have a4 := HG4.out.cell H4.out (fun h => h)
              have a5 := HG4.out.cell H5.out (fun h => h)
              clear he
              go_wp2_with (at_builtin; refine Kd.R_append (recF w) w.heap.size rfl (.tmp 111) (.tmp 117) 27 33 _ 72 rfl Try.underlying27 info_recL rfl (show 0 < recK.sz by decide) (by decide) u8 (keptE (L.take k)) it.2 (recCells it.2 Ad Ab cd cb) (fun b => ¬ Sn b ∧ w.heap.size ≤ b ∧ (b < wc.heap.size ∨ W4.heap.size ≤ b)) (fun _ => False) (by rfl) (by rfl) (recK_of HRA.out) (fun _ h => h.elim) (fun b hb => ⟨fun h => absurd (HV4.out.lt b h) (by omega), Nat.le_trans HG4.out.size hb, .inr hb⟩) HR4.out (Below.refl _ _) HG4.out.size (by have := HKL.out; omega) ?_; intro v1 W5 hR5 hB5 hg5 hat5; have HR5 := Lib.hid hR5; have HGR := Lib.hid hg5; clear hR5 hB5 hg5 hat5)
              have hF5 : Fr (fun b => ¬ Sn b ∧ w.heap.size ≤ b ∧ (b < wc.heap.size ∨ W4.heap.size ≤ b)) W4 W5 := (Fr.of_grown HGR.out).mono (fun i hi h => HR4.out.1 i h.symm)
              have HV5 := Lib.hid (HV4.out.fr hF5 (fun b hb h => h.1 hb))
              have HG5 := Lib.hid (HG4.out.trans' hF5 (fun i hi h => by have := h.2.1; omega))
              have HB5 := Lib.hid (HB4.out.fr hF5 (fun h => h.2.2.elim (fun h => by have := HG3.out; omega) (fun h => by have := HB4.out.lt; omega)))
              have HOA5 := Lib.hid (show it.2.2.2.1.length = 0 ∨ ∃ b cells, A1 = some ⟨b, 0, none⟩ ∧ Blk W5 b 29 cells ∧ it.2.2.2.1.length * 2 ≤ cells.size from HOA4.out.elim .inl (fun ⟨b, cells, hb, hB, hs⟩ => .inr ⟨b, cells, hb, hB.fr hF5 (fun h => HRD.out b h.2.2 hb), hs⟩))
              clear hF5 HV4 HB4 HOA4 a0 a1 a2 a3 a4 a5 teq ted
              rw [← HKN.out] at HR5
              try go_wp2_with fail
              go_loopw [12] (fun i ws => ∃ j : Nat, j ≤ it.2.2.2.1.length ∧ i = .int .i64 j ∧ (it.2.2.2.1.length = 0 ∨ ∃ b cells, A1 = some ⟨b, 0, none⟩ ∧ Blk ws b 29 cells ∧ it.2.2.2.1.length * 2 ≤ cells.size) ∧ Fr (fun b => A1 = some ⟨b, 0, none⟩) W5 ws) (fun i _ => it.2.2.2.1.length - (intOf i).toNat)
              case atStart => exact ⟨0, Nat.zero_le _, rfl, HOA5.out, Fr.refl _ _⟩
              case round =>
                obtain ⟨j, hj, rfl, hO, hGs⟩ := hrel
                have HOs := Lib.hid hO
                have HGs := Lib.hid hGs
                have hOwn := HB5.out.fr hGs (fun e => (HSA.out _ e).2.2 rfl)
                have o3 := hOwn.cell 3
                simp only [List.getElem?_toArray, List.getElem?_cons_zero, List.getElem?_cons_succ] at o3
                clear hO hGs hOwn
                rcases Nat.lt_or_ge j it.2.2.2.1.length with hl2 | hge2
                · obtain ⟨b2, cells, rfl, hB, hsz⟩ := HOs.out.resolve_left (by omega)
                  have c0 := hB.cell (j * 2)
                  have c1' := hB.cell (j * 2 + 1)
                  have ff := hB.frozen
                  obtain ⟨x0, hx0⟩ : ∃ u, cells[j * 2]? = some u := ⟨_, Array.getElem?_eq_getElem (by omega)⟩
                  obtain ⟨x1, hx1⟩ : ∃ u, cells[j * 2 + 1]? = some u := ⟨_, Array.getElem?_eq_getElem (by omega)⟩
                  rw [hx0] at c0
                  rw [hx1] at c1'
                  clear hx0 hx1
                  have HBr := Lib.hid hB
                  have HSZ := Lib.hid hsz
                  have k100 : j < 100 := by have := HSS.out.1; omega
                  clear hB hsz HOs HOA5
                  go_wp2_with fail
                  go_roundw
                  case rel =>
                    refine ⟨j + 1, by omega, by go_num, .inr ⟨b2, _, rfl, (HBr.out.set_ (j * 2) (.int .i64 0)).set_ (j * 2 + 1) (.int .i64 0), ?_⟩, (HGs.out.setCell (p := ⟨b2, j * 2, none⟩) (.inl rfl) _).setCell (p := ⟨b2, j * 2 + 1, none⟩) (.inl rfl) _⟩
                    have := HSZ.out
                    simpa using this
                  case measure => simp [intOf]; omega
                · have tkk : decide (j < it.2.2.2.1.length) = false := decide_eq_false (by omega)
                  clear hge2 hj
                  go_wp2_with fail
                  go_roundw
                  case rel =>
                    refine ⟨k + 1, g', Sn, by omega, by go_num, rfl, HV5.out.fr HGs.out (fun b hb e => HSD.out b hb e), HS4.out, Kd.R_mono (Kd.R_step HR5.out (fun b hb hl => HGs.out.block b hl (fun e => HRD.out b hb.2.2 e))) (fun b hb => ⟨hb.1, hb.2.1⟩), HG5.out.trans' HGs.out (fun i hi e => HWD.out i hi e), ?_⟩
                    rw [HTK.out]
                    intro a ha
                    rcases List.mem_append.1 ha with h | h
                    · exact H30.out a h
                    · rw [List.mem_singleton.1 h]; exact HSS.out
                  case measure => simp [intOf]; omega
            · have teq : (it.1 == 0) = false := by simpa using he
              have ted : decide (it.1 = 0) = false := decide_eq_false he
              have HKN := Lib.hid (show keptE (L.take (k + 1)) = keptE (L.take k) from by rw [HKS.out, if_neg he])
              clear he
              rw [← HKN.out] at HR4
              have HV5 := HV4
              have HG5 := HG4
              have HB5 := HB4
              have HOA5 := HOA4
              go_wp2_with fail
              clear HV4 HB4 HOA4 a0 teq ted
              go_loopw [12] (fun i ws => ∃ j : Nat, j ≤ it.2.2.2.1.length ∧ i = .int .i64 j ∧ (it.2.2.2.1.length = 0 ∨ ∃ b cells, A1 = some ⟨b, 0, none⟩ ∧ Blk ws b 29 cells ∧ it.2.2.2.1.length * 2 ≤ cells.size) ∧ Fr (fun b => A1 = some ⟨b, 0, none⟩) W4 ws) (fun i _ => it.2.2.2.1.length - (intOf i).toNat)
              case atStart => exact ⟨0, Nat.zero_le _, rfl, HOA5.out, Fr.refl _ _⟩
              case round =>
                obtain ⟨j, hj, rfl, hO, hGs⟩ := hrel
                have HOs := Lib.hid hO
                have HGs := Lib.hid hGs
                have hOwn := HB5.out.fr hGs (fun e => (HSA.out _ e).2.2 rfl)
                have o3 := hOwn.cell 3
                simp only [List.getElem?_toArray, List.getElem?_cons_zero, List.getElem?_cons_succ] at o3
                clear hO hGs hOwn
                rcases Nat.lt_or_ge j it.2.2.2.1.length with hl2 | hge2
                · obtain ⟨b2, cells, rfl, hB, hsz⟩ := HOs.out.resolve_left (by omega)
                  have c0 := hB.cell (j * 2)
                  have c1' := hB.cell (j * 2 + 1)
                  have ff := hB.frozen
                  obtain ⟨x0, hx0⟩ : ∃ u, cells[j * 2]? = some u := ⟨_, Array.getElem?_eq_getElem (by omega)⟩
                  obtain ⟨x1, hx1⟩ : ∃ u, cells[j * 2 + 1]? = some u := ⟨_, Array.getElem?_eq_getElem (by omega)⟩
                  rw [hx0] at c0
                  rw [hx1] at c1'
                  clear hx0 hx1
                  have HBr := Lib.hid hB
                  have HSZ := Lib.hid hsz
                  have k100 : j < 100 := by have := HSS.out.1; omega
                  clear hB hsz HOs HOA5
                  go_wp2_with fail
                  go_roundw
                  case rel =>
                    refine ⟨j + 1, by omega, by go_num, .inr ⟨b2, _, rfl, (HBr.out.set_ (j * 2) (.int .i64 0)).set_ (j * 2 + 1) (.int .i64 0), ?_⟩, (HGs.out.setCell (p := ⟨b2, j * 2, none⟩) (.inl rfl) _).setCell (p := ⟨b2, j * 2 + 1, none⟩) (.inl rfl) _⟩
                    have := HSZ.out
                    simpa using this
                  case measure => simp [intOf]; omega
                · have tkk : decide (j < it.2.2.2.1.length) = false := decide_eq_false (by omega)
                  clear hge2 hj
                  go_wp2_with fail
                  go_roundw
                  case rel =>
                    refine ⟨k + 1, g', Sn, by omega, by go_num, rfl, HV5.out.fr HGs.out (fun b hb e => HSD.out b hb e), HS4.out, Kd.R_mono (Kd.R_step HR4.out (fun b hb hl => HGs.out.block b hl (fun e => HRD.out b hb.2.2 e))) (fun b hb => ⟨hb.1, hb.2.1⟩), HG5.out.trans' HGs.out (fun i hi e => HWD.out i hi e), ?_⟩
                    rw [HTK.out]
                    intro a ha
                    rcases List.mem_append.1 ha with h | h
                    · exact H30.out a h
                    · rw [List.mem_singleton.1 h]; exact HSS.out
                  case measure => simp [intOf]; omega
        · have hbig : 30 < it.2.2.2.1.length ∨ it.2.2.2.1.length ≤ 30 ∧ 30 < it.2.2.2.2.length := by omega
          rcases hbig with h | ⟨h, h'⟩
          · have t2 : decide ((30 : Int) < (it.2.2.2.1.length : Int)) = true := decide_eq_true (by omega)
            have t2' : decide (30 < it.2.2.2.1.length) = true := decide_eq_true (by omega)
            go_wp2_with fail
            refine (works28 _).mono ?_
            rintro r w9 ⟨rfl, hF9⟩
            go_wp2_with fail
            go_ret
            exact ⟨rfl, HG.out.trans hF9⟩
          · have t2 : decide ((30 : Int) < (it.2.2.2.1.length : Int)) = false := decide_eq_false (by omega)
            have t2' : decide (30 < it.2.2.2.1.length) = false := decide_eq_false (by omega)
            have t3 : decide ((30 : Int) < (it.2.2.2.2.length : Int)) = true := decide_eq_true (by omega)
            have t3' : decide (30 < it.2.2.2.2.length) = true := decide_eq_true (by omega)
            go_wp2_with fail
            refine (works28 _).mono ?_
            rintro r w9 ⟨rfl, hF9⟩
            go_wp2_with fail
            go_ret
            exact ⟨rfl, HG.out.trans hF9⟩
      · as_aux_lemma =>
        · obtain rfl : n = k := by omega
          have hTn : L.take n = L := List.take_of_length_le (by rw [HLn.out]; exact Nat.le_refl _)
          have hkl := HKL.out
          rw [hTn] at HV HR HEL H30 hkl
          have tnn : decide (n < n) = false := decide_eq_false (by omega)
          obtain ⟨Ak, ck, rfl⟩ := Kd.R_slice HR.out
          have HCk := Lib.hid (recF_C (HG.out.below (fun _ _ h => h)) (Kd.R_reads' HR.out).2.2)
          have HKO := Lib.hid (keptE_ok HO.out)
          have HK30 := Lib.hid (keptE_30 H30.out)
          have HEN := Lib.hid (show (errsE L).length = n from by rw [errsE_len, HLn.out])
          obtain ⟨nk, hnk⟩ : ∃ x, x = (keptE L).length := ⟨_, rfl⟩
          rw [← hnk] at HCk hkl ⊢
          have HNK := Lib.hid hnk
          have HKL := Lib.hid hkl
          clear hTn hge hk9 HR hnk hkl
          go_wp2_with fail
          clear tnn
          go_loopw [13, 14, 15, 16] (fun vn vx vm vi ws => ∃ (i : Nat) (x : Int) (m : Nat), i ≤ n ∧ vi = .int .i64 i ∧ vn = .int .i64 ((errsE (L.take i)).count e : Nat) ∧ vx = .int .i64 x ∧ vm = .int .i64 m ∧ IsWorst (fun a => a ∈ errsE (L.take i)) (fun a => (errsE L).count a) x m ∧ Fr (fun _ => False) wr ws) (fun _ _ _ vi _ => n - (intOf vi).toNat)
          case atStart => exact ⟨0, 0, 0, Nat.zero_le _, rfl, rfl, rfl, rfl, (IsWorst.start _).congr (fun a => ⟨False.elim, fun h => by cases h⟩), Fr.refl _ _⟩
          case round =>
            obtain ⟨ws, rfl⟩ : ∃ x, x = wr := ⟨_, rfl⟩
            obtain ⟨i, xw, m, hi, rfl, rfl, rfl, rfl, hW, hGs⟩ := hrel
            have hm60 : m ≤ 60 := Nat.le_trans hW.le HEL.out
            have HM60 := Lib.hid hm60
            have HW := Lib.hid hW
            have HGs := Lib.hid hGs
            have HGw := Lib.hid (HG.out.trans hGs)
            obtain ⟨c, hc⟩ : ∃ c, c = (errsE (L.take i)).count e := ⟨_, rfl⟩
            have hc60 : c ≤ 60 := by rw [hc]; exact Nat.le_trans List.count_le_length (by rw [errsE_len, List.length_take]; omega)
            rw [← hc]
            have HCC := Lib.hid hc
            clear hW hGs hm60 hc
            rcases Nat.lt_or_ge i n with hlt | hge
            · obtain ⟨b, off, rfl, hz⟩ := ent_cells HC.out (Nat.lt_of_le_of_lt (Nat.zero_le _) hlt)
              have HZ := Lib.hid hz
              have HES := Lib.hid (errsE_succ (L := L) (k := i) (by rw [HLn.out]; exact hlt))
              have HPO := Lib.hid (show 0 < (errsE L).count (enx L i).1 from List.count_pos_iff.2 (List.mem_map.2 ⟨_, enx_mem (by rw [HLn.out]; exact hlt), rfl⟩))
              have c0 := HGw.out.cell (hz i hlt) (fun h => h)
              obtain ⟨ei, hei⟩ : ∃ x, x = (enx L i).1 := ⟨_, rfl⟩
              rw [← hei] at HES HPO c0
              have HEI := Lib.hid hei
              clear hz hei
              by_cases hq : ei = e
              · have tq : (ei == e) = true := by simpa using hq
                have tqd : decide (ei = e) = true := decide_eq_true hq
                have twr : IntKind.i64.wrap ((c : Int) + 1) = (c : Int) + 1 := wrap64_in _ (by omega) (by omega)
                have HN1 := Lib.hid (show (errsE (L.take (i + 1))).count e = c + 1 from by rw [HES.out, count_snoc, if_pos hq, ← HCC.out])
                have HNI := Lib.hid (show (c : Int) + 1 = ((c + 1 : Nat) : Int) from by omega)
                replace hq := Lib.hid hq
                go_wp2_with fail
                clear tq tqd twr c0
                go_loopw [17, 18] (fun vk vj wq => ∃ j : Nat, j ≤ n ∧ vj = .int .i64 j ∧ vk = .int .i64 ((errsE (L.take j)).count ei : Nat) ∧ Fr (fun _ => False) ws wq) (fun _ vj _ => n - (intOf vj).toNat)
                case atStart => exact ⟨0, Nat.zero_le _, rfl, rfl, Fr.refl _ _⟩
                case round =>
                  obtain ⟨wq, rfl⟩ : ∃ x, x = wr := ⟨_, rfl⟩
                  obtain ⟨j, hj, rfl, rfl, hG9⟩ := hrel
                  have HG9 := Lib.hid hG9
                  obtain ⟨d, hd⟩ : ∃ d, d = (errsE (L.take j)).count ei := ⟨_, rfl⟩
                  have hd60 : d ≤ 60 := by rw [hd]; exact Nat.le_trans List.count_le_length (by rw [errsE_len, List.length_take]; omega)
                  rw [← hd]
                  have HD := Lib.hid hd
                  have c0 := (HGw.out.trans hG9).cell (HZ.out i hlt) (fun h => h)
                  rw [← HEI.out] at c0
                  clear hG9 hd
                  rcases Nat.lt_or_ge j n with hl2 | hge
                  · have c1 := (HGw.out.trans HG9.out).cell (HZ.out j hl2) (fun h => h)
                    have HESj := Lib.hid (errsE_succ (L := L) (k := j) (by rw [HLn.out]; exact hl2))
                    obtain ⟨ej, hej⟩ : ∃ x, x = (enx L j).1 := ⟨_, rfl⟩
                    rw [← hej] at c1 HESj
                    clear hej
                    by_cases hq2 : ej = ei
                    · have tq : (ej == ei) = true := by simpa using hq2
                      have tqd : decide (ej = ei) = true := decide_eq_true hq2
                      have twr : IntKind.i64.wrap ((d : Int) + 1) = (d : Int) + 1 := wrap64_in _ (by omega) (by omega)
                      replace hq2 := Lib.hid hq2
                      go_wp2
                      go_quiet (fail)
                      go_wp2
                      go_roundw
                      case rel => exact ⟨j + 1, by omega, by go_num, by rw [HESj.out, count_snoc, if_pos hq2.out, ← HD.out]; rfl, HG9.out.drewN _⟩
                      case measure => simp [intOf]; omega
                    · have tq : (ej == ei) = false := by simpa using hq2
                      have tqd : decide (ej = ei) = false := decide_eq_false hq2
                      replace hq2 := Lib.hid hq2
                      go_wp2
                      go_quiet (fail)
                      go_wp2
                      go_roundw
                      case rel => exact ⟨j + 1, by omega, by go_num, by rw [HESj.out, count_snoc, if_neg hq2.out, ← HD.out]; rfl, HG9.out.drewN _⟩
                      case measure => simp [intOf]; omega
                  · obtain rfl : n = j := by omega
                    have tnn : decide (n < n) = false := decide_eq_false (by omega)
                    have hTn : L.take n = L := List.take_of_length_le (by rw [HLn.out]; exact Nat.le_refl _)
                    rw [hTn] at HD
                    have hd0 : 0 < d := by have := HPO.out; rw [HD.out]; exact this
                    have HWS := Lib.hid (show ∀ (x' : Int) (m' : Nat), IsWorst (fun a => a ∈ errsE (L.take i) ∨ a = ei) (fun a => (errsE L).count a) x' m' → IsWorst (fun a => a ∈ errsE (L.take (i + 1))) (fun a => (errsE L).count a) x' m' from fun x' m' h => h.congr (fun a => by rw [HES.out, List.mem_append, List.mem_singleton]))
                    clear hTn hge hj
                    by_cases hz0 : ei = 0
                    · have t1 : (ei != 0) = false := by simp [hz0]
                      have t1' : (ei == 0) = true := by simp [hz0]
                      replace hz0 := Lib.hid hz0
                      go_wp2_with fail
                      go_roundw
                      case rel => exact ⟨i + 1, xw, m, by omega, by go_num, by rw [HN1.out] <;> rfl, rfl, rfl, HWS.out _ _ (HW.out.skip (a := ei) HPO.out (fun h => h.1 hz0.out)), HGs.out.trans HG9.out⟩
                      case measure => simp [intOf]; omega
                    · have t1 : (ei != 0) = true := by simpa using hz0
                      have t1' : (ei == 0) = false := by simpa using hz0
                      replace hz0 := Lib.hid hz0
                      rcases Nat.lt_or_ge m d with hmd | hmd
                      · have t2 : decide ((m : Int) < (d : Int)) = true := decide_eq_true (by omega)
                        have t2' : decide (m < d) = true := decide_eq_true hmd
                        have hwo : worse xw m ei ((errsE L).count ei) := ⟨hz0.out, .inl (by rw [← HD.out]; exact hmd)⟩
                        have HWO := Lib.hid (HW.out.take (a := ei) HPO.out hwo)
                        rw [← HD.out] at HWO
                        clear hmd hwo
                        go_wp2_with fail
                        go_roundw
                        case rel => exact ⟨i + 1, ei, d, by omega, by go_num, by rw [HN1.out] <;> rfl, rfl, rfl, HWS.out _ _ HWO.out, HGs.out.trans HG9.out⟩
                        case measure => simp [intOf]; omega
                      · have t2 : decide ((m : Int) < (d : Int)) = false := decide_eq_false (by omega)
                        have t2' : decide (m < d) = false := decide_eq_false (by omega)
                        by_cases hm2 : d = m
                        · have t3 : ((d : Int) == (m : Int)) = true := by simp [hm2]
                          have t3' : (d == m) = true := by simp [hm2]
                          replace hm2 := Lib.hid hm2
                          by_cases hx2 : ei < xw
                          · have t4 : decide (ei < xw) = true := decide_eq_true hx2
                            have hwo : worse xw m ei ((errsE L).count ei) := ⟨hz0.out, .inr ⟨by rw [← HD.out]; exact hm2.out, hx2⟩⟩
                            have HWO := Lib.hid (HW.out.take (a := ei) HPO.out hwo)
                            rw [← HD.out] at HWO
                            clear hmd hwo hx2
                            go_wp2_with fail
                            go_roundw
                            case rel => exact ⟨i + 1, ei, d, by omega, by go_num, by rw [HN1.out] <;> rfl, rfl, rfl, HWS.out _ _ HWO.out, HGs.out.trans HG9.out⟩
                            case measure => simp [intOf]; omega
                          · have t4 : decide (ei < xw) = false := decide_eq_false hx2
                            have hnw := Lib.hid (show ¬ worse xw m ei ((errsE L).count ei) from fun h => by rw [← HD.out] at h; exact h.2.elim (fun h => by omega) (fun h => hx2 h.2))
                            clear hmd hx2
                            go_wp2_with fail
                            go_roundw
                            case rel => exact ⟨i + 1, xw, m, by omega, by go_num, by rw [HN1.out] <;> rfl, rfl, rfl, HWS.out _ _ (HW.out.skip (a := ei) HPO.out hnw.out), HGs.out.trans HG9.out⟩
                            case measure => simp [intOf]; omega
                        · have t3 : ((d : Int) == (m : Int)) = false := by simp; omega
                          have t3' : (d == m) = false := by simpa using hm2
                          have hnw := Lib.hid (show ¬ worse xw m ei ((errsE L).count ei) from fun h => by rw [← HD.out] at h; exact h.2.elim (fun h => by omega) (fun h => hm2 h.1))
                          replace hm2 := Lib.hid hm2
                          clear hmd
                          go_wp2_with fail
                          go_roundw
                          case rel => exact ⟨i + 1, xw, m, by omega, by go_num, by rw [HN1.out] <;> rfl, rfl, rfl, HWS.out _ _ (HW.out.skip (a := ei) HPO.out hnw.out), HGs.out.trans HG9.out⟩
                          case measure => simp [intOf]; omega
              · have tq : (ei == e) = false := by simpa using hq
                have tqd : decide (ei = e) = false := decide_eq_false hq
                have HN1 := Lib.hid (show (errsE (L.take (i + 1))).count e = c from by rw [HES.out, count_snoc, if_neg hq, ← HCC.out, Nat.add_zero])
                replace hq := Lib.hid hq
                go_wp2_with fail
                clear tq tqd c0
                go_loopw [17, 18] (fun vk vj wq => ∃ j : Nat, j ≤ n ∧ vj = .int .i64 j ∧ vk = .int .i64 ((errsE (L.take j)).count ei : Nat) ∧ Fr (fun _ => False) ws wq) (fun _ vj _ => n - (intOf vj).toNat)
                case atStart => exact ⟨0, Nat.zero_le _, rfl, rfl, Fr.refl _ _⟩
                case round =>
                  obtain ⟨wq, rfl⟩ : ∃ x, x = wr := ⟨_, rfl⟩
                  obtain ⟨j, hj, rfl, rfl, hG9⟩ := hrel
                  have HG9 := Lib.hid hG9
                  obtain ⟨d, hd⟩ : ∃ d, d = (errsE (L.take j)).count ei := ⟨_, rfl⟩
                  have hd60 : d ≤ 60 := by rw [hd]; exact Nat.le_trans List.count_le_length (by rw [errsE_len, List.length_take]; omega)
                  rw [← hd]
                  have HD := Lib.hid hd
                  have c0 := (HGw.out.trans hG9).cell (HZ.out i hlt) (fun h => h)
                  rw [← HEI.out] at c0
                  clear hG9 hd
                  rcases Nat.lt_or_ge j n with hl2 | hge
                  · have c1 := (HGw.out.trans HG9.out).cell (HZ.out j hl2) (fun h => h)
                    have HESj := Lib.hid (errsE_succ (L := L) (k := j) (by rw [HLn.out]; exact hl2))
                    obtain ⟨ej, hej⟩ : ∃ x, x = (enx L j).1 := ⟨_, rfl⟩
                    rw [← hej] at c1 HESj
                    clear hej
                    by_cases hq2 : ej = ei
                    · have tq : (ej == ei) = true := by simpa using hq2
                      have tqd : decide (ej = ei) = true := decide_eq_true hq2
                      have twr : IntKind.i64.wrap ((d : Int) + 1) = (d : Int) + 1 := wrap64_in _ (by omega) (by omega)
                      replace hq2 := Lib.hid hq2
                      go_wp2
                      go_quiet (fail)
                      go_wp2
                      go_roundw
                      case rel => exact ⟨j + 1, by omega, by go_num, by rw [HESj.out, count_snoc, if_pos hq2.out, ← HD.out]; rfl, HG9.out.drewN _⟩
                      case measure => simp [intOf]; omega
                    · have tq : (ej == ei) = false := by simpa using hq2
                      have tqd : decide (ej = ei) = false := decide_eq_false hq2
                      replace hq2 := Lib.hid hq2
                      go_wp2
                      go_quiet (fail)
                      go_wp2
                      go_roundw
                      case rel => exact ⟨j + 1, by omega, by go_num, by rw [HESj.out, count_snoc, if_neg hq2.out, ← HD.out]; rfl, HG9.out.drewN _⟩
                      case measure => simp [intOf]; omega
                  · obtain rfl : n = j := by omega
                    have tnn : decide (n < n) = false := decide_eq_false (by omega)
                    have hTn : L.take n = L := List.take_of_length_le (by rw [HLn.out]; exact Nat.le_refl _)
                    rw [hTn] at HD
                    have hd0 : 0 < d := by have := HPO.out; rw [HD.out]; exact this
                    have HWS := Lib.hid (show ∀ (x' : Int) (m' : Nat), IsWorst (fun a => a ∈ errsE (L.take i) ∨ a = ei) (fun a => (errsE L).count a) x' m' → IsWorst (fun a => a ∈ errsE (L.take (i + 1))) (fun a => (errsE L).count a) x' m' from fun x' m' h => h.congr (fun a => by rw [HES.out, List.mem_append, List.mem_singleton]))
                    clear hTn hge hj
                    by_cases hz0 : ei = 0
                    · have t1 : (ei != 0) = false := by simp [hz0]
                      have t1' : (ei == 0) = true := by simp [hz0]
                      replace hz0 := Lib.hid hz0
                      go_wp2_with fail
                      go_roundw
                      case rel => exact ⟨i + 1, xw, m, by omega, by go_num, by rw [HN1.out] <;> rfl, rfl, rfl, HWS.out _ _ (HW.out.skip (a := ei) HPO.out (fun h => h.1 hz0.out)), HGs.out.trans HG9.out⟩
                      case measure => simp [intOf]; omega
                    · have t1 : (ei != 0) = true := by simpa using hz0
                      have t1' : (ei == 0) = false := by simpa using hz0
                      replace hz0 := Lib.hid hz0
                      rcases Nat.lt_or_ge m d with hmd | hmd
                      · have t2 : decide ((m : Int) < (d : Int)) = true := decide_eq_true (by omega)
                        have t2' : decide (m < d) = true := decide_eq_true hmd
                        have hwo : worse xw m ei ((errsE L).count ei) := ⟨hz0.out, .inl (by rw [← HD.out]; exact hmd)⟩
                        have HWO := Lib.hid (HW.out.take (a := ei) HPO.out hwo)
                        rw [← HD.out] at HWO
                        clear hmd hwo
                        go_wp2_with fail
                        go_roundw
                        case rel => exact ⟨i + 1, ei, d, by omega, by go_num, by rw [HN1.out] <;> rfl, rfl, rfl, HWS.out _ _ HWO.out, HGs.out.trans HG9.out⟩
                        case measure => simp [intOf]; omega
                      · have t2 : decide ((m : Int) < (d : Int)) = false := decide_eq_false (by omega)
                        have t2' : decide (m < d) = false := decide_eq_false (by omega)
                        by_cases hm2 : d = m
                        · have t3 : ((d : Int) == (m : Int)) = true := by simp [hm2]
                          have t3' : (d == m) = true := by simp [hm2]
                          replace hm2 := Lib.hid hm2
                          by_cases hx2 : ei < xw
                          · have t4 : decide (ei < xw) = true := decide_eq_true hx2
                            have hwo : worse xw m ei ((errsE L).count ei) := ⟨hz0.out, .inr ⟨by rw [← HD.out]; exact hm2.out, hx2⟩⟩
                            have HWO := Lib.hid (HW.out.take (a := ei) HPO.out hwo)
                            rw [← HD.out] at HWO
                            clear hmd hwo hx2
                            go_wp2_with fail
                            go_roundw
                            case rel => exact ⟨i + 1, ei, d, by omega, by go_num, by rw [HN1.out] <;> rfl, rfl, rfl, HWS.out _ _ HWO.out, HGs.out.trans HG9.out⟩
                            case measure => simp [intOf]; omega
                          · have t4 : decide (ei < xw) = false := decide_eq_false hx2
                            have hnw := Lib.hid (show ¬ worse xw m ei ((errsE L).count ei) from fun h => by rw [← HD.out] at h; exact h.2.elim (fun h => by omega) (fun h => hx2 h.2))
                            clear hmd hx2
                            go_wp2_with fail
                            go_roundw
                            case rel => exact ⟨i + 1, xw, m, by omega, by go_num, by rw [HN1.out] <;> rfl, rfl, rfl, HWS.out _ _ (HW.out.skip (a := ei) HPO.out hnw.out), HGs.out.trans HG9.out⟩
                            case measure => simp [intOf]; omega
                        · have t3 : ((d : Int) == (m : Int)) = false := by simp; omega
                          have t3' : (d == m) = false := by simpa using hm2
                          have hnw := Lib.hid (show ¬ worse xw m ei ((errsE L).count ei) from fun h => by rw [← HD.out] at h; exact h.2.elim (fun h => by omega) (fun h => hm2 h.1))
                          replace hm2 := Lib.hid hm2
                          clear hmd
                          go_wp2_with fail
                          go_roundw
                          case rel => exact ⟨i + 1, xw, m, by omega, by go_num, by rw [HN1.out] <;> rfl, rfl, rfl, HWS.out _ _ (HW.out.skip (a := ei) HPO.out hnw.out), HGs.out.trans HG9.out⟩
                          case measure => simp [intOf]; omega
            · obtain rfl : n = i := by omega
              have tnn : decide (n < n) = false := decide_eq_false (by omega)
              have hTn : L.take n = L := List.take_of_length_le (by rw [HLn.out]; exact Nat.le_refl _)
              rw [hTn] at HW HCC
              have HVs := Lib.hid (HV.out.fr HGs.out (fun _ _ h => h))
              have HGs0 := HGs
              clear hTn hi hge HGs
              go_wp2_with fail
              clear tnn
              refine (led_answers g S _ _ ws HVs.out (Nat.le_trans HEL.out (by omega))).mono ?_
              rintro r w5 ⟨b5, rfl, hb5, hB5, hF5⟩
              rw [HEN.out]
              have HB5 := Lib.hid hB5
              have F5 := Lib.hid hF5
              clear hb5 hB5 hF5
              go_wp2_with fail
              refine (led_records g S _ _ w5 (HVs.out.fr F5.out (fun _ _ h => h)) (by have := HKL.out; have := HNK.out; omega) HK30.out).mono ?_
              rintro r w6 ⟨v6, rfl, hR6, hF6⟩
              obtain ⟨A6, c6, rfl⟩ := Kd.R_slice hR6
              have HC6 := Lib.hid (Kd.R_reads' hR6).2.2
              rw [← HNK.out] at HC6 ⊢
              have HB6 := Lib.hid (HB5.out.fr hF6 (fun h => h))
              have F6 := Lib.hid (F5.out.trans hF6)
              clear hR6 hF6 HB5 F5
              go_wp2_with fail
              refine (led_worst g S _ _ w6 (HVs.out.fr F6.out (fun _ _ h => h)) (Nat.le_trans HEL.out (by omega))).mono ?_
              rintro r w7 ⟨x', m', rfl, hW', hF7⟩
              obtain ⟨rfl, rfl⟩ := HW.out.one hW'
              have F67 := Lib.hid hF7
              have F7 := Lib.hid (F6.out.trans hF7)
              clear hW' hF7 F6
              go_wp2_with fail
              refine (led_count g S _ _ e w7 (HVs.out.fr F7.out (fun _ _ h => h)) HE.out).mono ?_
              rintro r w8 ⟨rfl, hF8⟩
              rw [← HCC.out]
              have F8 := Lib.hid (F7.out.trans hF8)
              have HB8 := Lib.hid (HB6.out.fr (F67.out.trans hF8) (fun h => h))
              have HC8 := Lib.hid (Kd.C_below HC6.out ((F67.out.trans hF8).below (fun _ _ h => h)))
              clear hF8 F67 HB6 HC6 F7
              have q1 : ((c : Int) != (c : Int)) = false := by simp
              have q2 : ((n : Int) != (n : Int)) = false := by simp
              have q3 : ((nk : Int) != (nk : Int)) = false := by simp
              have q4 : (xw != xw) = false := by simp
              have q5 : ((m : Int) != (m : Int)) = false := by simp
              go_wp2_with fail
              clear q1 q2 q3 q4 q5
              go_loopw [23] (fun vi wq => ∃ j : Nat, j ≤ n ∧ vi = .int .i64 j ∧ Fr (fun _ => False) w8 wq) (fun vi _ => n - (intOf vi).toNat)
              case atStart => exact ⟨0, Nat.zero_le _, rfl, Fr.refl _ _⟩
              case round =>
                obtain ⟨wq, rfl⟩ : ∃ x, x = wr := ⟨_, rfl⟩
                obtain ⟨j, hj, rfl, hG9⟩ := hrel
                have HG9 := Lib.hid hG9
                clear hG9
                rcases Nat.lt_or_ge j n with hlt | hge
                · obtain ⟨b, off, rfl, hz⟩ := ent_cells HC.out (Nat.lt_of_le_of_lt (Nat.zero_le _) hlt)
                  have z0 := ((HGw.out.trans F8.out).trans HG9.out).cell (hz j hlt) (fun h => h)
                  have z1 := HG9.out.cell (err_cell HB8.out (i := j) (by rw [HLn.out]; exact hlt)) (fun h => h)
                  obtain ⟨ej, hej⟩ : ∃ x, x = (enx L j).1 := ⟨_, rfl⟩
                  rw [← hej] at z0 z1
                  have q1 : (ej != ej) = false := by simp
                  clear hz hej
                  go_wp2
                  go_quiet (fail)
                  go_wp2
                  go_roundw
                  case rel => exact ⟨j + 1, by omega, by go_num, HG9.out.drewN _⟩
                  case measure => simp [intOf]; omega
                · obtain rfl : n = j := by omega
                  have tnn : decide (n < n) = false := decide_eq_false (by omega)
                  clear hge hj
                  go_wp2_with fail
                  clear tnn
                  go_loopw [24] (fun vi wp => ∃ j : Nat, j ≤ nk ∧ vi = .int .i64 j ∧ Fr (fun _ => False) wq wp) (fun vi _ => nk - (intOf vi).toNat)
                  case atStart => exact ⟨0, Nat.zero_le _, rfl, Fr.refl _ _⟩
                  case round =>
                    obtain ⟨wp, rfl⟩ : ∃ x, x = wr := ⟨_, rfl⟩
                    obtain ⟨j, hj, rfl, hGp⟩ := hrel
                    have HGp := Lib.hid hGp
                    have HGt := Lib.hid (((HGw.out.trans F8.out).trans HG9.out).trans hGp)
                    clear hGp
                    rcases Nat.lt_or_ge j nk with hlt | hge
                    · have k60 : j < 100 := by have := HKL.out; omega
                      have HCa := Lib.hid (Kd.C_below HC8.out ((HG9.out.trans HGp.out).below (fun _ _ h => h)))
                      have HCb := Lib.hid (Kd.C_below HCk.out ((((HGs0.out.trans F8.out).trans HG9.out).trans HGp.out).below (fun _ _ h => h)))
                      obtain ⟨ba, oa, Ada, Aba, cda, cba, rfl, hRa, y0, y1, y2, y3, y4⟩ := recs_at HCa.out hlt
                      obtain ⟨bk, ok, Adk, Abk, cdk, cbk, rfl, hRk, x0, x1, x2, x3, x4⟩ := recs_at HCb.out hlt
                      have hmem := rcx_mem (L := keptE L) (i := j) (by rw [← HNK.out]; exact hlt)
                      have ho := HKO.out _ hmem
                      have hs := HK30.out _ hmem
                      obtain ⟨rj, hrj⟩ : ∃ x, x = rcx (keptE L) j := ⟨_, rfl⟩
                      rw [← hrj] at hRa hRk y0 y1 y2 y3 y4 x0 x1 x2 x3 x4 ho hs
                      have HRA := Lib.hid hRa
                      have HRK := Lib.hid hRk
                      have HOO := Lib.hid ho
                      have HSS := Lib.hid hs
                      obtain ⟨St, hSt⟩ : ∃ St : World → Prop, St = Fr (fun _ => False) wp := ⟨_, rfl⟩
                      have HT := Lib.hid (show ∀ w', Fr (fun _ => False) wp w' → At St w' from fun w' h => by unfold At; rw [hSt]; exact h)
                      have lift : ∀ (q : Addr) (u : Value), wp.cell? q = some u → ∀ w', At St w' → w'.cell? q = some u := fun q u hq w' h => by replace h := h.out; rw [hSt] at h; exact h.cell hq (fun h => h)
                      replace y0 := lift _ _ y0
                      replace y1 := lift _ _ y1
                      replace y2 := lift _ _ y2
                      replace y3 := lift _ _ y3
                      replace y4 := lift _ _ y4
                      replace x0 := lift _ _ x0
                      replace x1 := lift _ _ x1
                      replace x2 := lift _ _ x2
                      replace x3 := lift _ _ x3
                      replace x4 := lift _ _ x4
                      have hT0 := HT.out wp.drew (Fr.refl _ _).drew
                      clear hRa hRk ho hs hmem hrj hSt lift
                      go_wp2_with fail
                      refine rt_start [] (At St) 10 (by as_aux_lemma => kernel_rfl) rfl ?_
                      refine rt_free 0 (v := ?_) rfl (by as_aux_lemma => kernel_rfl) (by as_aux_lemma => kernel_rfl) (by as_aux_lemma => kernel_rfl) (by as_aux_lemma => kernel_rfl) (fun _ _ _ h => h) (by rfl) (fun _ => by first | assumption | exact HS0 _ rfl | exact HT.out _ (by repeat (first | exact Fr.refl _ _ | apply Fr.drew | refine Fr.alloc ?_ _))) ?_ ?_
                      rotate_left 1
                      · intro w; go_simp <;> with_reducible rfl
                      try simp only [Act.put, List.setIfInBounds_toArray, List.set_cons_zero, List.set_cons_succ]
                      refine rt_free 1 (v := ?_) rfl (by as_aux_lemma => kernel_rfl) (by as_aux_lemma => kernel_rfl) (by as_aux_lemma => kernel_rfl) (by as_aux_lemma => kernel_rfl) (fun _ _ _ h => h) (by rfl) (fun _ => by first | assumption | exact HS0 _ rfl | exact HT.out _ (by repeat (first | exact Fr.refl _ _ | apply Fr.drew | refine Fr.alloc ?_ _))) ?_ ?_
                      rotate_left 1
                      · intro w; go_simp <;> with_reducible rfl
                      try simp only [Act.put, List.setIfInBounds_toArray, List.set_cons_zero, List.set_cons_succ]
                      refine rt_free 2 (v := ?_) rfl (by as_aux_lemma => kernel_rfl) (by as_aux_lemma => kernel_rfl) (by as_aux_lemma => kernel_rfl) (by as_aux_lemma => kernel_rfl) (fun _ _ _ h => h) (by rfl) (fun _ => by first | assumption | exact HS0 _ rfl | exact HT.out _ (by repeat (first | exact Fr.refl _ _ | apply Fr.drew | refine Fr.alloc ?_ _))) ?_ ?_
                      rotate_left 1
                      · intro w; go_simp <;> with_reducible rfl
                      try simp only [Act.put, List.setIfInBounds_toArray, List.set_cons_zero, List.set_cons_succ]
                      refine rt_take 3 (v := ?_) rfl (by as_aux_lemma => kernel_rfl) (by as_aux_lemma => kernel_rfl) (by as_aux_lemma => kernel_rfl) (by as_aux_lemma => kernel_rfl) (fun _ _ _ h => h) (by rfl) (by first | assumption | exact HS0 _ rfl | exact HT.out _ (by repeat (first | exact Fr.refl _ _ | apply Fr.drew | refine Fr.alloc ?_ _))) ?_ ?_
                      rotate_left 1
                      · intro w hSw; go_simp <;> with_reducible rfl
                      try simp only [Act.put, List.setIfInBounds_toArray, List.set_cons_zero, List.set_cons_succ]
                      refine rt_free 4 (v := ?_) rfl (by as_aux_lemma => kernel_rfl) (by as_aux_lemma => kernel_rfl) (by as_aux_lemma => kernel_rfl) (by as_aux_lemma => kernel_rfl) (fun _ _ _ h => h) (by rfl) (fun _ => by first | assumption | exact HS0 _ rfl | exact HT.out _ (by repeat (first | exact Fr.refl _ _ | apply Fr.drew | refine Fr.alloc ?_ _))) ?_ ?_
                      rotate_left 1
                      · intro w; go_simp <;> with_reducible rfl
                      try simp only [Act.put, List.setIfInBounds_toArray, List.set_cons_zero, List.set_cons_succ]
                      refine rt_free 5 (v := ?_) rfl (by as_aux_lemma => kernel_rfl) (by as_aux_lemma => kernel_rfl) (by as_aux_lemma => kernel_rfl) (by as_aux_lemma => kernel_rfl) (fun _ _ _ h => h) (by rfl) (fun _ => by first | assumption | exact HS0 _ rfl | exact HT.out _ (by repeat (first | exact Fr.refl _ _ | apply Fr.drew | refine Fr.alloc ?_ _))) ?_ ?_
                      rotate_left 1
                      · intro w; go_simp <;> with_reducible rfl
                      try simp only [Act.put, List.setIfInBounds_toArray, List.set_cons_zero, List.set_cons_succ]
                      refine rt_free 6 (v := ?_) rfl (by as_aux_lemma => kernel_rfl) (by as_aux_lemma => kernel_rfl) (by as_aux_lemma => kernel_rfl) (by as_aux_lemma => kernel_rfl) (fun _ _ _ h => h) (by rfl) (fun _ => by first | assumption | exact HS0 _ rfl | exact HT.out _ (by repeat (first | exact Fr.refl _ _ | apply Fr.drew | refine Fr.alloc ?_ _))) ?_ ?_
                      rotate_left 1
                      · intro w; go_simp <;> with_reducible rfl
                      try simp only [Act.put, List.setIfInBounds_toArray, List.set_cons_zero, List.set_cons_succ]
                      refine rt_take 7 (v := ?_) rfl (by as_aux_lemma => kernel_rfl) (by as_aux_lemma => kernel_rfl) (by as_aux_lemma => kernel_rfl) (by as_aux_lemma => kernel_rfl) (fun _ _ _ h => h) (by rfl) (by first | assumption | exact HS0 _ rfl | exact HT.out _ (by repeat (first | exact Fr.refl _ _ | apply Fr.drew | refine Fr.alloc ?_ _))) ?_ ?_
                      rotate_left 1
                      · intro w hSw; go_simp <;> with_reducible rfl
                      try simp only [Act.put, List.setIfInBounds_toArray, List.set_cons_zero, List.set_cons_succ]
                      refine rt_one 8 rfl (by as_aux_lemma => kernel_rfl) (fun K hK => ?_)
                      go_simp
                      refine (ref_rec rj rj Ada Aba Adk Abk cda cba cdk cbk _ (HRA.out.fr (Fr.refl _ _).drew) (HRK.out.fr (Fr.refl _ _).drew) (by have := HSS.out.1; omega) (by have := HSS.out.2; omega) (by have := HSS.out.1; omega) (by have := HSS.out.2; omega) HOO.out HOO.out).mono ?_
                      rintro r wa ⟨rfl, hFa⟩
                      rw [cdec_true (recS_refl _)]
                      have Fa := Lib.hid ((Fr.refl (fun _ => False) wp).drew.trans hFa)
                      have hTa := HT.out _ Fa.out
                      clear hFa
                      go_wp2_with fail
                      refine hK.out (At St) _ _ (fun _ h => h) (fun _ => by (assumption)) ?_
                      clear hK K
                      try simp only [Act.put, List.setIfInBounds_toArray, List.set_cons_zero, List.set_cons_succ]
                      refine rt_free 9 (v := ?_) rfl (by as_aux_lemma => kernel_rfl) (by as_aux_lemma => kernel_rfl) (by as_aux_lemma => kernel_rfl) (by as_aux_lemma => kernel_rfl) (fun _ _ _ h => h) (by rfl) (fun _ => by first | assumption | exact HS0 _ rfl | exact HT.out _ (by repeat (first | exact Fr.refl _ _ | apply Fr.drew | refine Fr.alloc ?_ _))) ?_ ?_
                      rotate_left 1
                      · intro w; go_simp <;> with_reducible rfl
                      try simp only [Act.put, List.setIfInBounds_toArray, List.set_cons_zero, List.set_cons_succ]
                      refine rt_done (by as_aux_lemma => kernel_rfl) ?_
                      go_wp2_with fail
                      have k60 : j < 100 := by have := HKL.out; omega
                      go_roundw
                      case rel => exact ⟨j + 1, by omega, by go_num, HGp.out.trans Fa.out⟩
                      case measure => simp [intOf]; omega
                    · have tjj : decide (j < nk) = false := decide_eq_false (by omega)
                      clear hge hj
                      go_wp2_with fail
                      clear tjj
                      refine (led_note_nil e _).mono ?_
                      rintro r x1 ⟨rfl, hF⟩
                      have F1 := Lib.hid hF
                      clear hF
                      go_wp2_with fail
                      refine (led_worst_nil _).mono ?_
                      rintro r x2 ⟨rfl, hF⟩
                      have F2 := Lib.hid (F1.out.trans hF)
                      clear hF
                      go_wp2_with fail
                      refine (led_count_nil e _).mono ?_
                      rintro r x3 ⟨rfl, hF⟩
                      have F3 := Lib.hid (F2.out.trans hF)
                      clear hF
                      go_wp2_with fail
                      refine (led_records_nil _).mono ?_
                      rintro r x4 ⟨rfl, hF⟩
                      have F4 := Lib.hid (F3.out.trans hF)
                      clear hF
                      go_wp2_with fail
                      refine (led_answers_nil _).mono ?_
                      rintro r x5 ⟨rfl, hF⟩
                      have F5 := Lib.hid (F4.out.trans hF)
                      clear hF
                      go_wp2_with fail
                      refine (led_twin_nil _).mono ?_
                      rintro r x6 ⟨rfl, hF⟩
                      have F6 := Lib.hid (F5.out.trans hF)
                      clear hF
                      go_wp2_with fail
                      refine (works28 _).mono ?_
                      rintro r x7 ⟨rfl, hF⟩
                      have F7 := Lib.hid (F6.out.trans hF)
                      clear hF
                      go_wp2_with fail
                      go_ret
                      exact ⟨rfl, HGt.out.trans F7.out⟩
end Go.Proofs.Ytmfbcebbklimoaa
