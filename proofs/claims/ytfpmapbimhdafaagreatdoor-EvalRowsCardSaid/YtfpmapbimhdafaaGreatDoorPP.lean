/- The law: rows behind one that has the same arguments change nothing. -/
import Derived.Test.YtfpmapbimhdafaaGreatDoorPO
import Derived.Test.YtfpmapbimhdafaaGreatDoorPM
import Derived.Test.YtfpmapbimhdafaaGreatDoorPN
namespace Go.Proofs.YtfpmapbimhdafaaGreatDoor
open Go.RowKit
set_option linter.unusedVariables false
set_option linter.unusedSimpArgs false

section
variable {w : World}
set_option maxRecDepth 100000 in
set_option maxHeartbeats 8000000 in
theorem c_EvalRows (d : Dump) (m : Model) (fi : Int) (more : List TRow) (vd vm vr : Value) (hd : kDump.agg w NoB d vd) (hm : kModel.agg w NoB m vm) (hr : kRows.one w NoB more vr) (hfi : (Lit.int .i64 fi).wf = true) :
    Calls Tryz.prog 4 #[vd, vm, .int .i64 fi, vr] w fun e w' => e = .returned (.bool true) ∧ Ext NoB w w' := by
  have hd0 := hd
  have hm0 := hm
  obtain ⟨v1, v2, v3, v4, rfl, _⟩ := dump_open hd
  obtain ⟨B1, c1, B2, c2, rfl, _, _⟩ := model_open hm
  obtain ⟨R, rc, rfl, _, hrm, _⟩ := Kd.one_slice hr
  have HD := Lib.hid hd0
  have HM := Lib.hid hm0
  have HRM := Lib.hid hr
  have hmm : more.length ≤ 9223372036854775807 := by unfold maxLen at hrm; omega
  have HE0 : Hid (Ext NoB w ((w.alloc (.cells #[v1, v2, v3, v4] 27)).alloc (.cells #[.slice B1 m.sizes.length c1, .slice B2 m.funs.length c2] 31))) := Lib.hid (((Ext.refl _ _).alloc _).alloc _)
  clear hd hd0 hm hm0 hr hrm
  go_enter Tryz.func4, Tryz.ntmps4
  go_wp2_with fail
  have HBD : Hid (Bq w.heap.size v1 v2 v3 v4 ((w.alloc (.cells #[v1, v2, v3, v4] 27)).alloc (.cells #[.slice B1 m.sizes.length c1, .slice B2 m.funs.length c2] 31))) := Lib.hid ⟨by go_simp, by go_simp, by go_simp, by go_simp⟩
  have HBM : Hid (ZB (w.heap.size + 1) (.slice B1 m.sizes.length c1) (.slice B2 m.funs.length c2) ((w.alloc (.cells #[v1, v2, v3, v4] 27)).alloc (.cells #[.slice B1 m.sizes.length c1, .slice B2 m.funs.length c2] 31))) := Lib.hid ⟨by go_simp, by go_simp⟩
  generalize (w.alloc (.cells #[v1, v2, v3, v4] 27)).alloc (.cells #[.slice B1 m.sizes.length c1, .slice B2 m.funs.length c2] 31) = w0 at *
  replace HD := Lib.hid (kDump.aggExt HD.out HE0.out)
  replace HM := Lib.hid (kModel.aggExt HM.out HE0.out)
  replace HRM := Lib.hid (kRows.oneExt HRM.out HE0.out)
  generalize hgd : w.heap.size = gd at *
  generalize hgm : gd + 1 = gm at *
  clear hgd hgm
  refine c_speaks.mono ?_
  rintro e u1 ⟨rfl, hq⟩
  have HQ1 := Lib.hid hq
  obtain ⟨d0, d1, d2, d3⟩ := HBD.out.ext HQ1.out (fun h => h)
  have ld := cell_lt d0
  clear hq
  go_wp2_with fail
  clear d0 d1 d2 d3 ld
  refine (c_Great d _ (kDump.aggExt HD.out HQ1.out)).mono ?_
  rintro e u2 ⟨b, rfl, hb, hq⟩
  have HQ2 := Lib.hid (HQ1.out.trans hq)
  have HSM := Lib.hid hb
  obtain ⟨d0, d1, d2, d3⟩ := HBD.out.ext HQ2.out (fun h => h)
  obtain ⟨m0, m1⟩ := HBM.out.ext HQ2.out (fun h => h)
  have ld := cell_lt d0
  have lm := cell_lt m0
  clear hq hb HQ1
  cases b with
  | true =>
    go_wp2_with fail
    go_ret
    exact ⟨rfl, HE0.out.trans HQ2.out⟩
  | false =>
  have HS := Lib.hid (HSM.out rfl)
  clear HSM
  go_wp2_with fail
  clear d0 d1 d2 d3 ld m0 m1 lm
  refine (c_rLoad d _ (kDump.aggExt HD.out HQ2.out) HS.out).mono ?_
  rintro e u3 ⟨b, rfl, hb, hq⟩
  have HQ3 := Lib.hid (HQ2.out.trans hq)
  have HLL := Lib.hid hb
  obtain ⟨d0, d1, d2, d3⟩ := HBD.out.ext HQ3.out (fun h => h)
  obtain ⟨m0, m1⟩ := HBM.out.ext HQ3.out (fun h => h)
  have ld := cell_lt d0
  have lm := cell_lt m0
  clear hq hb HQ2
  cases b with
  | false =>
    go_wp2_with fail
    go_ret
    exact ⟨rfl, HE0.out.trans HQ3.out⟩
  | true =>
  have HL := Lib.hid (HLL.out rfl)
  clear HLL
  go_wp2_with fail
  clear d0 d1 d2 d3 ld m0 m1 lm
  refine (c_Odd m _ (kModel.aggExt HM.out HQ3.out)).mono ?_
  rintro e u4 ⟨b, rfl, hb, hq⟩
  have HQ4 := Lib.hid (HQ3.out.trans hq)
  have HOO := Lib.hid hb
  obtain ⟨d0, d1, d2, d3⟩ := HBD.out.ext HQ4.out (fun h => h)
  obtain ⟨m0, m1⟩ := HBM.out.ext HQ4.out (fun h => h)
  have ld := cell_lt d0
  have lm := cell_lt m0
  clear hq hb HQ3
  cases b with
  | true =>
    go_wp2_with fail
    go_ret
    exact ⟨rfl, HE0.out.trans HQ4.out⟩
  | false =>
  have HML := Lib.hid (HOO.out rfl)
  clear HOO
  go_wp2_with fail
  clear d0 d1 d2 d3 ld m0 m1 lm
  refine (c_Wild d _ (kDump.aggExt HD.out HQ4.out) HS.out).mono ?_
  rintro e u5 ⟨b, rfl, hb, hq⟩
  have HQ5 := Lib.hid (HQ4.out.trans hq)
  have HOO := Lib.hid hb
  obtain ⟨d0, d1, d2, d3⟩ := HBD.out.ext HQ5.out (fun h => h)
  obtain ⟨m0, m1⟩ := HBM.out.ext HQ5.out (fun h => h)
  have ld := cell_lt d0
  have lm := cell_lt m0
  clear hq hb HQ4
  cases b with
  | true =>
    go_wp2_with fail
    go_ret
    exact ⟨rfl, HE0.out.trans HQ5.out⟩
  | false =>
  have HWI := Lib.hid (HOO.out rfl)
  clear HOO
  go_wp2_with fail
  clear d0 d1 d2 d3 ld m0 m1 lm
  refine (c_rModel d _ (kDump.aggExt HD.out HQ5.out) HS.out HL.out m _ (kModel.aggExt HM.out HQ5.out) HML.out).mono ?_
  rintro e u6 ⟨rfl, hq⟩
  have HQ6 := Lib.hid (HQ5.out.trans hq)
  obtain ⟨d0, d1, d2, d3⟩ := HBD.out.ext HQ6.out (fun h => h)
  obtain ⟨m0, m1⟩ := HBM.out.ext HQ6.out (fun h => h)
  have ld := cell_lt d0
  have lm := cell_lt m0
  clear hq HQ5
  cases hmb : modelB d m with
  | false =>
    go_wp2_with fail
    go_ret
    exact ⟨rfl, HE0.out.trans HQ6.out⟩
  | true =>
  have HEV : Hid (EvOk d m) := Lib.hid ⟨HS.out, HL.out, HWI.out, mod_sm hmb HML.out (mod_dig HM.out), hmb⟩
  have hml : m.funs.length ≤ 50 := HML.out.2.1
  have HMLL := Lib.hid HML.out
  clear hmb
  by_cases hz : m.funs.length = 0
  · have q : ((m.funs.length : Int) == 0) = true := by rw [beq_iff_eq]; omega
    clear hz
    go_wp2_with fail
    go_ret
    exact ⟨rfl, HE0.out.trans HQ6.out⟩
  have qz : ((m.funs.length : Int) == 0) = false := by rw [beq_eq_false_iff_ne]; omega
  by_cases h20 : 20 < more.length
  · have q : decide ((20 : Int) < (more.length : Int)) = true := by rw [decide_eq_true_eq]; omega
    have q' : decide (20 < more.length) = true := decide_eq_true h20
    clear hz
    go_wp2_with fail
    go_ret
    exact ⟨rfl, HE0.out.trans HQ6.out⟩
  have q20 : decide ((20 : Int) < (more.length : Int)) = false := by rw [decide_eq_false_iff_not]; omega
  have q20' : decide (20 < more.length) = false := decide_eq_false h20
  go_wp2_with fail
  clear d0 d1 d2 d3 ld m0 m1 lm q20 q20' qz
  refine (c_Loaded d _ (kDump.aggExt HD.out HQ6.out) HS.out HL.out).mono ?_
  rintro e u7 ⟨s, O, rfl, hscr, hgr⟩
  have HSC := Lib.hid hscr
  have HOLD : Hid (OldO O u7) := Lib.hid (by obtain ⟨p, A, vc, _, _, _, hA⟩ := hscr; exact hA.old)
  have HQ7 := Lib.hid (HQ6.out.trans hgr.1)
  have HMO := Lib.hid (kModel.aggKeep (kModel.aggExt HM.out HQ6.out) hgr.1 hgr.2)
  have HRO := Lib.hid (kRows.oneKeep (kRows.oneExt HRM.out HQ6.out) hgr.1 hgr.2)
  obtain ⟨m0, m1⟩ := HBM.out.ext HQ7.out (fun h => h)
  have lm := cell_lt m0
  clear hscr hgr HQ6 HD HS HL HML HWI HM HRM
  unfold ptr
  obtain ⟨kk, hklt, hkk⟩ := pick_lt fi (show 0 < m.funs.length by omega)
  have qz : ((m.funs.length : Int) == 0) = false := by rw [beq_eq_false_iff_ne]; omega
  have hfl0 : ¬ ((m.funs.length : Int) = 0) := by omega
  go_upto_region 10 with fail
  clear hkk qz hz hfl0
  obtain ⟨t, ht⟩ := at_some hklt
  obtain ⟨T1, t1, T2, t2, hme, hsz, htb⟩ := model_open HMO.out
  injection hme with hme
  simp only [Array.mk.injEq, List.cons.injEq, Value.slice.injEq, and_true, true_and] at hme
  obtain ⟨⟨rfl, rfl⟩, rfl, rfl⟩ := hme
  have HSZ := Lib.hid hsz
  have HTB := Lib.hid htb
  obtain ⟨_, _, hv, _, _, hr⟩ := Kd.one_slice htb
  injection hv with hv1 hv2 hv3
  subst hv1
  clear hv2 hv3
  obtain ⟨tb, tof, hT, _, hrow⟩ := hr (ne_nil_of_lt hklt)
  subst hT
  obtain ⟨Tr, trc, Te, tec, ⟨y0, y1, y2⟩, hrows, hels⟩ := row_table' hrow ht
  have HTT := Lib.hid ht
  have HROWS := Lib.hid hrows
  have HELS := Lib.hid hels
  have hrl : t.rows.length ≤ 20 := (HMLL.out.2.2 t (List.mem_of_getElem? ht)).1
  have HE8 : Hid (Ext NoB u7 (u7.alloc (.cells #[.slice B1 m.sizes.length c1, .slice (some ⟨tb, tof, none⟩) m.funs.length c2] 31))) := Lib.hid ((Ext.refl _ _).alloc _)
  have HX8 : Hid (ZB u7.heap.size (.slice B1 m.sizes.length c1) (.slice (some ⟨tb, tof, none⟩) m.funs.length c2) (u7.alloc (.cells #[.slice B1 m.sizes.length c1, .slice (some ⟨tb, tof, none⟩) m.funs.length c2] 31)) ∧ (u7.alloc (.cells #[.slice B1 m.sizes.length c1, .slice (some ⟨tb, tof, none⟩) m.funs.length c2] 31)).frozen? ⟨u7.heap.size, 1, none⟩ = false ∧ u7.heap.size < (u7.alloc (.cells #[.slice B1 m.sizes.length c1, .slice (some ⟨tb, tof, none⟩) m.funs.length c2] 31)).heap.size) := Lib.hid ⟨⟨by go_simp, by go_simp⟩, by go_simp, by simp⟩
  have HTY : Hid (u7.cell? ⟨tb, tof + kk * 3, none⟩ = some (.slice Tr t.rows.length trc) ∧ u7.cell? ⟨tb, tof + kk * 3 + 1, none⟩ = some (.bool t.els.neg) ∧ u7.cell? ⟨tb, tof + kk * 3 + 2, none⟩ = some (.slice Te t.els.digs.length tec)) := Lib.hid ⟨y0, y1, y2⟩
  have HBM7 := Lib.hid (HBM.out.ext HQ7.out (fun h => h))
  clear hr hrow hrows hels ht hsz htb y0 y1 y2 m0 m1 lm
  obtain ⟨gx, hgx⟩ : ∃ gx, u7.heap.size = gx := ⟨_, rfl⟩
  rw [hgx] at HX8 ⊢
  have HGX := Lib.hid hgx
  clear hgx
  generalize (u7.alloc (.cells #[.slice B1 m.sizes.length c1, .slice (some ⟨tb, tof, none⟩) m.funs.length c2] 31)) = wx8 at *
  obtain ⟨m0, m1⟩ := HBM7.out.ext HE8.out (fun h => h)
  obtain ⟨⟨x0, x1⟩, fx, lx⟩ := HX8.out
  have lm := cell_lt m0
  have HTB8 : Hid (kTables.one (wx8.alloc (.cells #[] 58)) (PlusV (Plus O gx) (.slice (some ⟨wx8.heap.size, 0, none⟩) 0 0)) m.funs (.slice (some ⟨tb, tof, none⟩) m.funs.length c2)) := Lib.hid (by
    refine kTables.oneKeep HTB.out ((HE8.out.alloc _).no) fun b hb h => h.elim (fun h => h.elim id fun e => by have := HGX.out; omega) fun e => ?_
    have e' : some wx8.heap.size = some b := e
    injection e' with e'
    have := HE8.out.size
    omega)
  go_upto_region 11 with (at_builtin; refine wpl_append kTable (by decide) rfl (.tmp 65) (.tmp 67) 29 rfl wx8.heap.size 58 _ 56 Tryz.underlying29 info_Table rfl (Plus O gx) (.slice (some ⟨wx8.heap.size, 0, none⟩) 0 0) rfl [] (Own.lit0 (Nat.le_refl _)) _ rfl m.funs HTB8.out (by omega) (by simp only [List.length_nil]; omega) (by simp) ?_; intro v9 w9 hO9 hE9 hat9; rw [List.nil_append] at hO9; (have HO9 := Lib.hid hO9); (have HE9 : Hid (Ext NoB wx8 w9) := Lib.hid (((Ext.refl NoB wx8).alloc _).then hE9 (fun i hi h => by have h' : some wx8.heap.size = some i := h; injection h'; omega))); (have X0 := HE9.out.cell x0 id); (have X1 := HE9.out.cell x1 id); (have FX := (HE9.out.frozen (p := ⟨gx, 1, none⟩) lx id).trans fx); (have M0 := HE9.out.cell m0 id); (have M1 := HE9.out.cell m1 id); (have LX := cell_lt X0); (have LM := cell_lt M0); (obtain ⟨T9, c9, hv9, -, -⟩ := hO9.shape); subst hv9; clear hO9 hE9 hat9)
  have HE10 : Hid (Ext NoB u7 (w9.setCell ⟨gx, 1, none⟩ (.slice T9 m.funs.length c9))) := Lib.hid ((HE8.out.trans HE9.out).setNew (p := ⟨gx, 1, none⟩) (by rw [HGX.out]; exact Nat.le_refl _) _)
  have HX10 : Hid (ZB gx (.slice B1 m.sizes.length c1) (.slice T9 m.funs.length c9) (w9.setCell ⟨gx, 1, none⟩ (.slice T9 m.funs.length c9))) := Lib.hid ⟨by go_simp, by go_simp⟩
  obtain ⟨tg, hT9⟩ : ∃ tg, T9 = some ⟨tg, 0, none⟩ := by
    obtain ⟨g, c, hv⟩ := HO9.out.form (by omega)
    injection hv with hv
    exact ⟨g, hv⟩
  subst hT9
  obtain ⟨htg0, htg1⟩ : wx8.heap.size ≤ tg ∧ tg < w9.heap.size := HO9.out.base rfl
  have hgx8 : gx < wx8.heap.size := lx
  have HO10 : Hid (Own (w9.setCell ⟨gx, 1, none⟩ (.slice (some ⟨tg, 0, none⟩) m.funs.length c9)) wx8.heap.size 58 kTable (Plus O gx) (.slice (some ⟨tg, 0, none⟩) m.funs.length c9) m.funs) := Lib.hid (HO9.out.keep ((Ext.refl (fun b => b = gx) w9).setO (p := ⟨gx, 1, none⟩) rfl _) (fun b hb e => ⟨.inr e, fun e2 => by
    have e2' : some tg = some b := e2
    injection e2' with e2'
    omega⟩))
  have hsz10 : (w9.setCell ⟨gx, 1, none⟩ (.slice (some ⟨tg, 0, none⟩) m.funs.length c9)).heap.size = w9.heap.size := by simp [World.setCell]
  have hs89 := HE9.out.size
  have hs78 : u7.heap.size ≤ wx8.heap.size := HE8.out.size
  have HSZS : Hid (gx = u7.heap.size ∧ u7.heap.size ≤ wx8.heap.size ∧ gx < wx8.heap.size ∧ wx8.heap.size ≤ tg ∧ tg < (w9.setCell ⟨gx, 1, none⟩ (.slice (some ⟨tg, 0, none⟩) m.funs.length c9)).heap.size) := Lib.hid (by have := HGX.out; rw [hsz10]; omega)
  clear X0 X1 FX M0 M1 LX LM x0 x1 fx lx m0 m1 lm htg0 htg1 hgx8 hsz10 hs89 hs78 HO9 HE9 HTB8 HX8 HE8
  generalize w9.setCell ⟨gx, 1, none⟩ (.slice (some ⟨tg, 0, none⟩) m.funs.length c9) = w10 at *
  obtain ⟨m0, m1⟩ := HBM7.out.ext HE10.out (fun h => h)
  have lm := cell_lt m0
  have y0 := HE10.out.cell HTY.out.1 id
  have y1 := HE10.out.cell HTY.out.2.1 id
  have y2 := HE10.out.cell HTY.out.2.2 id
  have ly := cell_lt y0
  obtain ⟨O2, hO2⟩ : ∃ O2, O2 = PlusV (Plus O gx) (.slice (some ⟨tg, 0, none⟩) m.funs.length c9) := ⟨_, rfl⟩
  have HO2E := Lib.hid hO2
  have HLOW : Hid (∀ b, b < u7.heap.size → O2 b → O b) := Lib.hid (fun b hb h => by
    rw [hO2] at h
    obtain ⟨e1, e2, e3, e4, e5⟩ := HSZS.out
    rcases h with (h | h) | h
    · exact h
    · omega
    · have h' : some tg = some b := h
      injection h'
      omega)
  have HOLD2 : Hid (OldO O2 w10) := Lib.hid (fun b h => by
    rw [hO2] at h
    obtain ⟨e1, e2, e3, e4, e5⟩ := HSZS.out
    rcases h with (h | h) | h
    · have := HOLD.out b h
      omega
    · omega
    · have h' : some tg = some b := h
      injection h'
      omega)
  clear hO2
  have hb10 : u7.heap.size ≤ w10.heap.size := HE10.out.size
  have HROWS10 : Hid (kRows.one (w10.alloc (.cells #[] 60)) (PlusV O2 (.slice (some ⟨w10.heap.size, 0, none⟩) 0 0)) t.rows (.slice Tr t.rows.length trc)) := Lib.hid (by
    refine kRows.oneKeep HROWS.out ((HE10.out.alloc _).no) fun b hb h => h.elim (HLOW.out b hb) fun e => ?_
    have e' : some w10.heap.size = some b := e
    injection e' with e'
    omega)
  go_upto_region 12 with (at_builtin; refine wpl_append kRow (by decide) rfl (.tmp 70) (.tmp 76) 56 rfl w10.heap.size 60 _ 56 Tryz.underlying56 info_Row rfl O2 (.slice (some ⟨w10.heap.size, 0, none⟩) 0 0) rfl [] (Own.lit0 (Nat.le_refl _)) _ rfl t.rows HROWS10.out (by omega) (by simp only [List.length_nil]; omega) (by simp) ?_; intro v11 w11 hO11 hE11 hat11; rw [List.nil_append] at hO11; (have HO11 := Lib.hid hO11); (have HE11 : Hid (Ext NoB w10 w11) := Lib.hid (((Ext.refl NoB w10).alloc _).then hE11 (fun i hi h => by have h' : some w10.heap.size = some i := h; injection h'; omega))); clear hO11 hE11 hat11)
  clear HROWS10 m0 m1 lm y0 y1 y2 ly
  go_wp2_with fail
  go_loopw [12, 80] (fun rv i wr => ∃ (k : Nat) (ys : List TRow), k ≤ more.length ∧ i = .int .i64 k ∧ Hid (Own wr w10.heap.size 60 kRow O2 rv ys) ∧ Hid (∃ ex, ys = t.rows ++ ex ∧ Behind t ex ∧ ys.length ≤ 20 + k) ∧ Hid (Ext NoB w10 wr)) (fun _ i _ => more.length - (intOf i).toNat)
  case atStart => exact ⟨0, t.rows, Nat.zero_le _, rfl, HO11, Lib.hid ⟨[], (List.append_nil _).symm, Behind.nil t, by omega⟩, HE11⟩
  case round =>
    clear HO11 HE11
    obtain ⟨k, ys, hk, rfl, HY, HEX, HER⟩ := hrel
    have HEr := Lib.hid (HE10.out.trans HER.out)
    obtain ⟨m0, m1⟩ := HBM7.out.ext HEr.out (fun h => h)
    have lm := cell_lt m0
    by_cases hlt : k < more.length
    · obtain ⟨r, hr'⟩ := at_some hlt
      obtain ⟨_, _, hv, _, _, hr⟩ := Kd.one_slice (kRows.oneExt HRO.out HEr.out.no)
      injection hv with hv1 hv2 hv3
      subst hv1
      clear hv2 hv3
      obtain ⟨sb, so, hA, _, hrow⟩ := hr (ne_nil_of_lt hlt)
      subst hA
      obtain ⟨Ra, ra, Rv, rv, ⟨z0, z1, z2⟩, _, _⟩ := row_row hrow hr'
      have lz := cell_lt z0
      have y0 := HEr.out.cell HTY.out.1 id
      have y1 := HEr.out.cell HTY.out.2.1 id
      have y2 := HEr.out.cell HTY.out.2.2 id
      have ly := cell_lt y0
      clear hr hrow hr'
      by_cases hr0 : t.rows.length = 0
      · have q0 : ((t.rows.length : Int) == 0) = true := by rw [beq_iff_eq]; omega
        have HEW : Hid (Ext NoB w (wr.alloc (.cells #[.slice Ra r.args.length ra, .bool r.value.neg, .slice Rv r.value.digs.length rv] 60))) := Lib.hid ((HE0.out.trans (HQ7.out.trans HEr.out)).alloc _)
        clear hr0
        go_wp2_with fail
        go_ret
        exact ⟨rfl, HEW.out⟩
      have q0 : ((t.rows.length : Int) == 0) = false := by rw [beq_eq_false_iff_ne]; omega
      have q1 : ¬ ((t.rows.length : Int) = 0) := by omega
      have q2 : ¬ t.rows = [] := fun e => hr0 (by rw [e]; rfl)
      obtain ⟨q, hql, hqe⟩ : ∃ q : Nat, q < t.rows.length ∧ (k : Int).tmod (t.rows.length : Int) = (q : Int) := ⟨k % t.rows.length, Nat.mod_lt _ (by omega), (Int.ofNat_tmod k t.rows.length).symm⟩
      obtain ⟨r2, hr2⟩ := at_some hql
      obtain ⟨_, _, hv, _, _, hr⟩ := Kd.one_slice HROWS.out
      injection hv with hv1 hv2 hv3
      subst hv1
      clear hv2 hv3
      obtain ⟨pb, po, hA, _, hrow⟩ := hr (ne_nil_of_lt hql)
      subst hA
      obtain ⟨Pa, pa, Pv, pv, ⟨s0, _, _⟩, hargs, _⟩ := row_row hrow hr2
      have s0 := HEr.out.cell s0 id
      have ls := cell_lt s0
      have HARG := Lib.hid hargs
      have HR2 := Lib.hid hr2
      have jb1 : (kk : Int) < (m.funs.length : Int) := by omega
      have jb2 : (q : Int) < (t.rows.length : Int) := by omega
      clear hr hrow hargs hr2 hr0
      have HE12 : Hid (Ext NoB wr (wr.alloc (.cells #[.slice Ra r.args.length ra, .bool r.value.neg, .slice Rv r.value.digs.length rv] 60))) := Lib.hid ((Ext.refl _ _).alloc _)
      go_upto_region 17 with fail
      have HST : Hid ((wr.alloc (.cells #[.slice Ra r.args.length ra, .bool r.value.neg, .slice Rv r.value.digs.length rv] 60)).drew.cell? ⟨gm, 1, none⟩ = some (.slice (some ⟨tb, tof, none⟩) m.funs.length c2) ∧ (wr.alloc (.cells #[.slice Ra r.args.length ra, .bool r.value.neg, .slice Rv r.value.digs.length rv] 60)).drew.cell? ⟨tb, tof + kk * 3, none⟩ = some (.slice (some ⟨pb, po, none⟩) t.rows.length trc) ∧ (wr.alloc (.cells #[.slice Ra r.args.length ra, .bool r.value.neg, .slice Rv r.value.digs.length rv] 60)).drew.cell? ⟨pb, po + q * 3, none⟩ = some (.slice Pa r2.args.length pa)) := Lib.hid ⟨HE12.out.drew.cell m1 id, HE12.out.drew.cell y0 id, HE12.out.drew.cell s0 id⟩
      have n0 : (wr.alloc (.cells #[.slice Ra r.args.length ra, .bool r.value.neg, .slice Rv r.value.digs.length rv] 60)).drew.cell? ⟨wr.heap.size, 0, none⟩ = some (.slice Ra r.args.length ra) := by go_simp
      have f0 : (wr.alloc (.cells #[.slice Ra r.args.length ra, .bool r.value.neg, .slice Rv r.value.digs.length rv] 60)).drew.frozen? ⟨wr.heap.size, 0, none⟩ = false := by go_simp
      refine wpM_begin (fun W => W.cell? ⟨gm, 1, none⟩ = some (.slice (some ⟨tb, tof, none⟩) m.funs.length c2) ∧ W.cell? ⟨tb, tof + kk * 3, none⟩ = some (.slice (some ⟨pb, po, none⟩) t.rows.length trc) ∧ W.cell? ⟨pb, po + q * 3, none⟩ = some (.slice Pa r2.args.length pa)) [19] [0, 1, 2, 3, 4, 5, 6, 7, 8, 9, 10, 11, 12, 13, 14, 15, 16, 17, 18] (by kernel_rfl) (by kernel_rfl) (HST.out) (fun hS0 hA => ?_)
      refine wpM_free 0 rfl (by kernel_rfl) rfl (by intro w; go_simp; try rfl) ?_; (try simp only [Act.put, List.setIfInBounds_toArray, List.set_cons_zero, List.set_cons_succ])
      refine wpM_take 1 hA hS0 rfl (by kernel_rfl) rfl (by intro w hs; (try dsimp only at hs); go_simp; try rfl) ?_; (try simp only [Act.put, List.setIfInBounds_toArray, List.set_cons_zero, List.set_cons_succ])
      refine wpM_free 2 rfl (by kernel_rfl) rfl (by intro w; go_simp; try rfl) ?_; (try simp only [Act.put, List.setIfInBounds_toArray, List.set_cons_zero, List.set_cons_succ])
      refine wpM_free 3 rfl (by kernel_rfl) rfl (by intro w; go_simp; try rfl) ?_; (try simp only [Act.put, List.setIfInBounds_toArray, List.set_cons_zero, List.set_cons_succ])
      refine wpM_free 4 rfl (by kernel_rfl) rfl (by intro w; go_simp; try rfl) ?_; (try simp only [Act.put, List.setIfInBounds_toArray, List.set_cons_zero, List.set_cons_succ])
      refine wpM_take 5 hA hS0 rfl (by kernel_rfl) rfl (by intro w hs; (try dsimp only at hs); go_simp; try rfl) ?_; (try simp only [Act.put, List.setIfInBounds_toArray, List.set_cons_zero, List.set_cons_succ])
      refine wpM_free 6 rfl (by kernel_rfl) rfl (by intro w; go_simp; try rfl) ?_; (try simp only [Act.put, List.setIfInBounds_toArray, List.set_cons_zero, List.set_cons_succ])
      refine wpM_free 7 rfl (by kernel_rfl) rfl (by intro w; go_simp; try rfl) ?_; (try simp only [Act.put, List.setIfInBounds_toArray, List.set_cons_zero, List.set_cons_succ])
      refine wpM_take 8 hA hS0 rfl (by kernel_rfl) rfl (by intro w hs; (try dsimp only at hs); go_simp; try rfl) ?_; (try simp only [Act.put, List.setIfInBounds_toArray, List.set_cons_zero, List.set_cons_succ])
      refine wpM_free 9 rfl (by kernel_rfl) rfl (by intro w; go_simp; try rfl) ?_; (try simp only [Act.put, List.setIfInBounds_toArray, List.set_cons_zero, List.set_cons_succ])
      refine wpM_free 10 rfl (by kernel_rfl) rfl (by intro w; go_simp; try rfl) ?_; (try simp only [Act.put, List.setIfInBounds_toArray, List.set_cons_zero, List.set_cons_succ])
      refine wpM_free 11 rfl (by kernel_rfl) rfl (by intro w; go_simp; try rfl) ?_; (try simp only [Act.put, List.setIfInBounds_toArray, List.set_cons_zero, List.set_cons_succ])
      refine wpM_take 12 hA hS0 rfl (by kernel_rfl) rfl (by intro w hs; (try dsimp only at hs); go_simp; try rfl) ?_; (try simp only [Act.put, List.setIfInBounds_toArray, List.set_cons_zero, List.set_cons_succ])
      refine wpM_free 13 rfl (by kernel_rfl) rfl (by intro w; go_simp; try rfl) ?_; (try simp only [Act.put, List.setIfInBounds_toArray, List.set_cons_zero, List.set_cons_succ])
      refine wpM_free 14 rfl (by kernel_rfl) rfl (by intro w; go_simp; try rfl) ?_; (try simp only [Act.put, List.setIfInBounds_toArray, List.set_cons_zero, List.set_cons_succ])
      refine wpM_free 15 rfl (by kernel_rfl) rfl (by intro w; go_simp; try rfl) ?_; (try simp only [Act.put, List.setIfInBounds_toArray, List.set_cons_zero, List.set_cons_succ])
      refine wpM_free 16 rfl (by kernel_rfl) rfl (by intro w; go_simp; try rfl) ?_; (try simp only [Act.put, List.setIfInBounds_toArray, List.set_cons_zero, List.set_cons_succ])
      refine wpM_take 17 hA hS0 rfl (by kernel_rfl) rfl (by intro w hs; (try dsimp only at hs); go_simp; try rfl) ?_; (try simp only [Act.put, List.setIfInBounds_toArray, List.set_cons_zero, List.set_cons_succ])
      refine wpM_free 18 rfl (by kernel_rfl) rfl (by intro w; go_simp; try rfl) ?_; (try simp only [Act.put, List.setIfInBounds_toArray, List.set_cons_zero, List.set_cons_succ])
      refine wpM_last 19 rfl (by kernel_rfl) (by decide) (fun K hK => ?_)
      go_simp
      refine hK.out _ _ ?_
      clear hK K; (try simp only [Act.put, List.setIfInBounds_toArray, List.set_cons_zero, List.set_cons_succ])
      refine wpM_done (by kernel_rfl) ?_
      clear hS0 n0 f0 HST HE12
      have hown := HY.out
      go_upto_region 19 with fail
      have HE14 : Hid (Ext NoB wr (wr.alloc (.cells #[.slice Pa r2.args.length pa, .bool t.els.neg, .slice Te t.els.digs.length tec] 60)).drew) := Lib.hid ((Ext.refl NoB wr).alloc _).drew
      have r0 : (wr.alloc (.cells #[.slice Pa r2.args.length pa, .bool t.els.neg, .slice Te t.els.digs.length tec] 60)).drew.cell? ⟨wr.heap.size, 0, none⟩ = some (.slice Pa r2.args.length pa) := by go_simp
      have r1 : (wr.alloc (.cells #[.slice Pa r2.args.length pa, .bool t.els.neg, .slice Te t.els.digs.length tec] 60)).drew.cell? ⟨wr.heap.size, 1, none⟩ = some (.bool t.els.neg) := by go_simp
      have r2' : (wr.alloc (.cells #[.slice Pa r2.args.length pa, .bool t.els.neg, .slice Te t.els.digs.length tec] 60)).drew.cell? ⟨wr.heap.size, 2, none⟩ = some (.slice Te t.els.digs.length tec) := by go_simp
      clear z0 z1 z2 lz s0 ls m0 m1 lm y0 y1 y2 ly
      generalize wr.heap.size = rg at *
      generalize (wr.alloc (.cells #[.slice Pa r2.args.length pa, .bool t.els.neg, .slice Te t.els.digs.length tec] 60)).drew = w14 at *
      replace hown := hown.ext HE14.out
      have HE714 := Lib.hid (HEr.out.trans HE14.out)
      have hb7 : u7.heap.size ≤ w10.heap.size := hb10
      have hyl : ys.length ≤ 40 := by
        obtain ⟨ex, _, _, h⟩ := HEX.out
        omega
      have hw10 : w10.heap.size ≤ w14.heap.size := Nat.le_trans HER.out.size HE14.out.size
      go_wp2_with (at_builtin; refine wpl_append1 kRow (by decide) rfl (.tmp 119) (.tmp 121) 56 rfl w10.heap.size 60 _ 56 Tryz.underlying56 info_Row rfl O2 _ rfl ys hown rfl ⟨r2.args, t.els⟩ [_, _, _] (kRow_iff.2 ⟨_, _, rfl, kZs.oneKeep HARG.out HE714.out.no (fun b hb h => h.elim (HLOW.out b hb) (fun e => by have := (hown.base e).1; omega)), kDigs.oneKeep HELS.out HE714.out.no (fun b hb h => h.elim (HLOW.out b hb) (fun e => by have := (hown.base e).1; omega))⟩) (HOLD2.out.ext (HER.out.trans HE14.out)) (by omega) (by omega) hw10 ?_; intro v15 w15 hO15 hE15 hat15; (have HO15 := Lib.hid hO15); (have HE15 : Hid (Ext NoB w10 w15) := Lib.hid ((HER.out.trans HE14.out).then hE15 (fun i hi h => by have := (hown.base h).1; omega))); clear hO15 hE15 hat15)
      have HEX2 : Hid (∃ ex, ys ++ [(⟨r2.args, t.els⟩ : TRow)] = t.rows ++ ex ∧ Behind t ex ∧ (ys ++ [(⟨r2.args, t.els⟩ : TRow)]).length ≤ 20 + (k + 1)) := Lib.hid (by
        obtain ⟨ex, e1, e2, e3⟩ := HEX.out
        refine ⟨ex ++ [⟨r2.args, t.els⟩], by rw [e1, List.append_assoc], e2.snoc (List.mem_of_getElem? HR2.out) rfl rfl, by rw [List.length_append, List.length_singleton]; omega⟩)
      exact ⟨⟨k + 1, _, by omega, by go_num, HO15, HEX2, HE15⟩, by simp [intOf]; omega⟩
    · obtain rfl : k = more.length := by omega
      obtain ⟨ex, hys, hbeh, hyl⟩ := HEX.out
      have HYS := Lib.hid hys
      have HBEH := Lib.hid hbeh
      obtain ⟨Ty, cy, hvy, -, -⟩ := HY.out.shape
      subst hvy
      obtain ⟨x0, x1⟩ := HX10.out.ext HER.out (fun h => h)
      have lx := cell_lt x0
      have HO17 := Lib.hid (HO10.out.ext HER.out)
      obtain ⟨tcs, htcs, htc⟩ := HO17.out.at_ HTT.out
      obtain ⟨tv1, tv2, rfl, _, _⟩ := kTable_iff.1 htcs
      have c0 : wr.cell? ⟨tg, kk * 3, none⟩ = some tv1 := htc 0 _ rfl
      have f0 : wr.frozen? ⟨tg, kk * 3, none⟩ = false := HO17.out.frozenAt _
      have lc := cell_lt c0
      have HYR : Hid (kRows.one wr (PlusV (Plus O gx) (.slice (some ⟨tg, 0, none⟩) m.funs.length c9)) ys (.slice Ty ys.length cy)) := Lib.hid (by
        have := HY.out.slice (pos := (by decide)) (fun b hb => HOLD2.out b hb)
        rwa [HO2E.out] at this)
      have hset := HO17.out.setAt (i := kk) (j := 0) (x := t) (y := ⟨ys, t.els⟩) (u := .slice Ty ys.length cy) HTT.out (by decide) (fun cs h => by
        obtain ⟨v1, v2, rfl, h1, h2⟩ := kTable_iff.1 h
        exact kTable_iff.2 ⟨_, v2, rfl, HYR.out, h2⟩)
      have HSET : Hid (Own (wr.setCell ⟨tg, kk * 3, none⟩ (.slice Ty ys.length cy)) wx8.heap.size 58 kTable (Plus O gx) (.slice (some ⟨tg, 0, none⟩) m.funs.length c9) (m.funs.set kk ⟨ys, t.els⟩)) := Lib.hid hset.1
      have HE17 : Hid (Ext NoB u7 (wr.setCell ⟨tg, kk * 3, none⟩ (.slice Ty ys.length cy))) := Lib.hid (HEr.out.setNew (p := ⟨tg, kk * 3, none⟩) (by have := HSZS.out; show u7.heap.size ≤ tg; omega) _)
      have HX17 : Hid (ZB gx (.slice B1 m.sizes.length c1) (.slice (some ⟨tg, 0, none⟩) m.funs.length c9) (wr.setCell ⟨tg, kk * 3, none⟩ (.slice Ty ys.length cy))) := Lib.hid ((HX10.out.ext HER.out id).ext hset.2 (fun e => by have := HSZS.out; omega))
      have jb1 : (kk : Int) < (m.funs.length : Int) := by omega
      clear hlt hys hbeh hyl hset htcs htc HEX HY HYR HO17
      go_upto_region 22 with fail
      clear x0 x1 lx c0 f0 lc m0 m1 lm jb1
      generalize wr.setCell ⟨tg, kk * 3, none⟩ (.slice Ty ys.length cy) = w17 at *
      obtain ⟨m0, m1⟩ := HBM7.out.ext HE17.out (fun h => h)
      go_wp2_with fail
      refine (c_All d (HSC.out.ext HE17.out) m _ (kModel.aggExt HMO.out HE17.out.no) HEV.out).mono ?_
      rintro e w18 ⟨va, rfl, hva, hq⟩
      have HVA := Lib.hid hva
      have HE18 := Lib.hid (HE17.out.trans hq)
      have HQ18 := Lib.hid hq
      obtain ⟨x0, x1⟩ := HX17.out.ext hq (fun h => h)
      clear hva hq m0 m1
      go_wp2_with fail
      clear x0 x1
      have HMX : Hid (kModel.agg w18 O (setFun m kk ⟨ys, t.els⟩) (.agg #[.slice B1 m.sizes.length c1, .slice (some ⟨tg, 0, none⟩) m.funs.length c9])) := Lib.hid ⟨[_, _], rfl, kModel_iff.2 ⟨_, _, rfl, kInts.oneExt HSZ.out HE18.out.no, kTables.oneExt ((HSET.out.turn (O' := O) (fun b _ h => .inl h)).sliceN (fun g hg h => by
        have h' : some tg = some g := hg
        injection h' with h'
        have := HOLD.out g h
        have := HSZS.out
        omega)) HQ18.out.no⟩⟩
      have HEV2 : Hid (EvOk d (setFun m kk ⟨ys, t.els⟩)) := Lib.hid (by rw [HYS.out]; exact HBEH.out.ok HTT.out HEV.out)
      have HVV : Hid (valsTo d.terms (setFun m kk ⟨ys, t.els⟩) d.terms.length = valsTo d.terms m d.terms.length) := Lib.hid (by rw [HYS.out]; exact (HBEH.out.vals HTT.out _).symm)
      refine (c_All d (HSC.out.ext HE18.out) _ _ HMX.out HEV2.out).mono ?_
      rintro e w19 ⟨vb, rfl, hvb, hq⟩
      rw [HVV.out] at hvb
      have HVB := Lib.hid hvb
      have HVA2 := Lib.hid (kZs.oneExt HVA.out hq.no)
      have HE19 := Lib.hid (HE0.out.trans (HQ7.out.trans (HE18.out.trans hq)))
      obtain ⟨Va, va2, rfl, _, hma, _⟩ := Kd.one_slice HVA.out
      obtain ⟨Vb, vb2, rfl, _, _, _⟩ := Kd.one_slice HVB.out
      have hvm : (valsTo d.terms m d.terms.length).length ≤ 9223372036854775807 := by unfold maxLen at hma; omega
      clear hvb hq hma HMX HEV2 HVV HVA HQ18 HX17 HSET HE17 HE18
      generalize valsTo d.terms m d.terms.length = vals at *
      go_wp2_with fail
      go_loopw [157] (fun i wr => ∃ k : Nat, k ≤ vals.length ∧ i = .int .i64 k ∧ Hid (Ext NoB w19 wr)) (fun i _ => vals.length - (intOf i).toNat)
      case atStart => exact ⟨0, Nat.zero_le _, rfl, Lib.hid (Ext.refl _ _)⟩
      case round =>
        obtain ⟨k, hk, rfl, HEL⟩ := hrel
        by_cases hlt : k < vals.length
        · obtain ⟨x, hx⟩ := at_some hlt
          obtain ⟨_, _, hv, _, _, hr⟩ := Kd.one_slice (kZs.oneExt HVA2.out HEL.out.no)
          injection hv with hv1 hv2 hv3
          subst hv1
          clear hv2 hv3
          obtain ⟨ab, ao, hA, _, hrow⟩ := hr (ne_nil_of_lt hlt)
          subst hA
          obtain ⟨Xa, xa, ⟨a0, a1⟩, had⟩ := row_z hrow hx
          obtain ⟨_, _, hv, _, _, hr⟩ := Kd.one_slice (kZs.oneExt HVB.out HEL.out.no)
          injection hv with hv1 hv2 hv3
          subst hv1
          clear hv2 hv3
          obtain ⟨bb, bo, hA, _, hrow⟩ := hr (ne_nil_of_lt hlt)
          subst hA
          obtain ⟨Xb, xb, ⟨b0, b1⟩, hbd⟩ := row_z hrow hx
          have HZA := Lib.hid (z_agg (kDigs.oneExt had (Ext.refl NoB wr).drew.no))
          have HZB := Lib.hid (z_agg (kDigs.oneExt hbd (Ext.refl NoB wr).drew.no))
          have HST : Hid (wr.drew.cell? ⟨ab, ao + k * 2, none⟩ = some (.bool x.neg) ∧ wr.drew.cell? ⟨ab, ao + k * 2 + 1, none⟩ = some (.slice Xa x.digs.length xa) ∧ wr.drew.cell? ⟨bb, bo + k * 2, none⟩ = some (.bool x.neg) ∧ wr.drew.cell? ⟨bb, bo + k * 2 + 1, none⟩ = some (.slice Xb x.digs.length xb)) := Lib.hid ⟨a0, a1, b0, b1⟩
          have jb1 : (k : Int) < (vals.length : Int) := by omega
          clear hr hrow had hbd hx a0 a1 b0 b1
          go_wp2_with fail
          refine wpM_begin (fun W => W.cell? ⟨ab, ao + k * 2, none⟩ = some (.bool x.neg) ∧ W.cell? ⟨ab, ao + k * 2 + 1, none⟩ = some (.slice Xa x.digs.length xa) ∧ W.cell? ⟨bb, bo + k * 2, none⟩ = some (.bool x.neg) ∧ W.cell? ⟨bb, bo + k * 2 + 1, none⟩ = some (.slice Xb x.digs.length xb)) [8] [0, 1, 2, 3, 4, 5, 6, 7] (by kernel_rfl) (by kernel_rfl) (HST.out) (fun hS0 hA => ?_)
          refine wpM_free 0 rfl (by kernel_rfl) rfl (by intro w; go_simp; try rfl) ?_; (try simp only [Act.put, List.setIfInBounds_toArray, List.set_cons_zero, List.set_cons_succ])
          refine wpM_free 1 rfl (by kernel_rfl) rfl (by intro w; go_simp; try rfl) ?_; (try simp only [Act.put, List.setIfInBounds_toArray, List.set_cons_zero, List.set_cons_succ])
          refine wpM_free 2 rfl (by kernel_rfl) rfl (by intro w; go_simp; try rfl) ?_; (try simp only [Act.put, List.setIfInBounds_toArray, List.set_cons_zero, List.set_cons_succ])
          refine wpM_take 3 hA hS0 rfl (by kernel_rfl) rfl (by intro w hs; (try dsimp only at hs); go_simp; try rfl) ?_; (try simp only [Act.put, List.setIfInBounds_toArray, List.set_cons_zero, List.set_cons_succ])
          refine wpM_free 4 rfl (by kernel_rfl) rfl (by intro w; go_simp; try rfl) ?_; (try simp only [Act.put, List.setIfInBounds_toArray, List.set_cons_zero, List.set_cons_succ])
          refine wpM_free 5 rfl (by kernel_rfl) rfl (by intro w; go_simp; try rfl) ?_; (try simp only [Act.put, List.setIfInBounds_toArray, List.set_cons_zero, List.set_cons_succ])
          refine wpM_free 6 rfl (by kernel_rfl) rfl (by intro w; go_simp; try rfl) ?_; (try simp only [Act.put, List.setIfInBounds_toArray, List.set_cons_zero, List.set_cons_succ])
          refine wpM_take 7 hA hS0 rfl (by kernel_rfl) rfl (by intro w hs; (try dsimp only at hs); go_simp; try rfl) ?_; (try simp only [Act.put, List.setIfInBounds_toArray, List.set_cons_zero, List.set_cons_succ])
          refine wpM_last 8 rfl (by kernel_rfl) (by decide) (fun K hK => ?_)
          go_simp
          refine (c_zSame _ _ x x _ O HZA.out HZB.out).mono ?_
          rintro e w20 ⟨rfl, hq⟩
          have HE20 := Lib.hid (HEL.out.trans ((Ext.refl NoB wr).drew.trans hq))
          rw [decide_eq_true (rfl : x = x)]
          clear hq
          refine hK.out _ _ ?_
          clear hK K; (try simp only [Act.put, List.setIfInBounds_toArray, List.set_cons_zero, List.set_cons_succ])
          refine wpM_free 9 rfl (by kernel_rfl) rfl (by intro w; go_simp; try rfl) ?_; (try simp only [Act.put, List.setIfInBounds_toArray, List.set_cons_zero, List.set_cons_succ])
          refine wpM_done (by kernel_rfl) ?_
          clear hS0
          go_wp2_with fail
          exact ⟨⟨k + 1, by omega, by go_num, HE20⟩, by simp [intOf]; omega⟩
        · obtain rfl : k = vals.length := by omega
          clear hlt
          go_wp2_with fail
          go_ret
          exact ⟨rfl, HE19.out.trans HEL.out⟩
end
end Go.Proofs.YtfpmapbimhdafaaGreatDoor
