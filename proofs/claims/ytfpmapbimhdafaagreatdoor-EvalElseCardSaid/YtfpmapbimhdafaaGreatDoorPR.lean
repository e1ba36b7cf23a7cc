/- EvalTerms in plain words: what a term is hangs on its kids' values; a term of sort Bool is 0 or 1. No program in sight. The law: what a term is hangs on what its kids are alone. -/
import Derived.Test.YtfpmapbimhdafaaGreatDoorPO
import Derived.Test.YtfpmapbimhdafaaGreatDoorPN
import Derived.Test.YtfpmapbimhdafaaGreatDoorPM
namespace Go.Proofs.YtfpmapbimhdafaaGreatDoor
open Go.RowKit
set_option linter.unusedVariables false
set_option linter.unusedSimpArgs false

theorem valueT_same {x y : Term} {kids : List ZInt} {m : Model} (h1 : x.op = y.op) (h2 : x.fn = y.fn) (h3 : x.num = y.num) : valueT x kids m = valueT y kids m := by
  rw [valueT, valueT, h1, h2, h3]
theorem valsTo_take {terms : List Term} {m : Model} : ∀ {n k : Nat}, k ≤ n → n ≤ terms.length → (valsTo terms m n).take k = valsTo terms m k
  | 0, k, h, _ => by
    obtain rfl : k = 0 := by omega
    rfl
  | n + 1, k, h, hn => by
    rcases Nat.lt_or_ge k (n + 1) with hk | hk
    · obtain ⟨t, ht⟩ := at_some (show n < terms.length by omega)
      rw [valsTo_succ ht, List.take_append_of_le_length (by rw [valsTo_len (by omega)]; omega), valsTo_take (by omega) (by omega)]
    · obtain rfl : k = n + 1 := by omega
      rw [List.take_of_length_le (by rw [valsTo_len hn]; exact Nat.le_refl _)]
theorem valsTo_at {terms : List Term} {m : Model} {n i : Nat} {t : Term} (hi : i < n) (hn : n ≤ terms.length) (ht : terms[i]? = some t) : (valsTo terms m n)[i]? = some (valueT t (kidsOf (valsTo terms m i) t) m) := by
  have h := valsTo_take (terms := terms) (m := m) (show i + 1 ≤ n by omega) hn
  rw [valsTo_succ ht] at h
  have h2 : ((valsTo terms m n).take (i + 1))[i]? = (valsTo terms m i ++ [valueT t (kidsOf (valsTo terms m i) t) m])[i]? := by rw [h]
  rw [List.getElem?_take_of_lt (by omega)] at h2
  rw [h2, List.getElem?_append_right (by rw [valsTo_len (by omega)]; exact Nat.le_refl _), valsTo_len (by omega), Nat.sub_self]
  rfl
theorem atZ_take {terms : List Term} {m : Model} {n i j : Nat} (hj : j < i) (hi : i ≤ n) (hn : n ≤ terms.length) : atZ (valsTo terms m i) j = atZ (valsTo terms m n) j := by
  have h := valsTo_take (terms := terms) (m := m) hi hn
  rw [atZ, atZ, ← h, List.getD_eq_getElem?_getD, List.getD_eq_getElem?_getD, List.getElem?_take_of_lt hj]
theorem kidsOf_all {d : Dump} {m : Model} {i : Nat} {t : Term} (hl : LoadOk d) (ht : d.terms[i]? = some t) : kidsOf (valsTo d.terms m i) t = kidsOf (valsTo d.terms m d.terms.length) t := by
  have hi := (List.getElem?_eq_some_iff.1 ht).1
  have hk := (hl.terms i t ht).1.kids
  refine List.map_congr_left fun x hx => ?_
  obtain ⟨j, hj, rfl⟩ := List.getElem_of_mem hx
  have := hk j hj
  rw [rdI_eq hj] at this
  exact atZ_take (by omega) (by omega) (Nat.le_refl _)
/-- A term's value by all values. -/
theorem val_at {d : Dump} {m : Model} {i : Nat} {t : Term} (hl : LoadOk d) (ht : d.terms[i]? = some t) : (valsTo d.terms m d.terms.length)[i]? = some (valueT t (kidsOf (valsTo d.terms m d.terms.length) t) m) := by
  rw [valsTo_at (List.getElem?_eq_some_iff.1 ht).1 (Nat.le_refl _) ht, kidsOf_all hl ht]
/-- Of two terms the kids' values are the same, of the first j. -/
def sameTo (vals : List ZInt) (x y : Term) : Nat → Bool
  | 0 => true
  | j + 1 => sameTo vals x y j && decide (atZ vals (kidN x j) = atZ vals (kidN y j))
theorem sameTo_at {vals : List ZInt} {x y : Term} : ∀ {n j : Nat}, sameTo vals x y n = true → j < n → atZ vals (kidN x j) = atZ vals (kidN y j)
  | 0, j, _, h => by omega
  | n + 1, j, h, hj => by
    rw [sameTo, Bool.and_eq_true, decide_eq_true_eq] at h
    rcases Nat.lt_or_ge j n with h1 | h1
    · exact sameTo_at h.1 h1
    · obtain rfl : j = n := by omega
      exact h.2
theorem terms_same {d : Dump} {m : Model} {i k : Nat} {x y : Term} (hl : LoadOk d) (hx : d.terms[i]? = some x) (hy : d.terms[k]? = some y) (h1 : x.op = y.op) (h2 : x.fn = y.fn) (h3 : x.num = y.num) (h4 : x.kids.length = y.kids.length) (h5 : sameTo (valsTo d.terms m d.terms.length) x y x.kids.length = true) :
    (valsTo d.terms m d.terms.length)[i]? = (valsTo d.terms m d.terms.length)[k]? := by
  rw [val_at hl hx, val_at hl hy]
  have e : kidsOf (valsTo d.terms m d.terms.length) x = kidsOf (valsTo d.terms m d.terms.length) y := by
    refine List.ext_getElem (by rw [kidsOf_len, kidsOf_len, h4]) fun j hj hj' => ?_
    rw [kidsOf_len] at hj hj'
    have := sameTo_at h5 hj
    simp only [kidsOf, List.getElem_map]
    rw [kidN, kidN, rdI_eq hj, rdI_eq hj'] at this
    exact this
  rw [e, valueT_same h1 h2 h3]
/-! A term of sort Bool. -/
theorem lookRows_mem {args : List ZInt} {els : ZInt} : ∀ {rows : List TRow}, lookRows args els rows = els ∨ ∃ r ∈ rows, lookRows args els rows = r.value
  | [] => .inl rfl
  | r :: l => by
    rw [lookRows]
    split
    · exact .inr ⟨r, List.mem_cons_self .., rfl⟩
    · rcases lookRows_mem (args := args) (els := els) (rows := l) with h | ⟨x, hx, h⟩
      · exact .inl h
      · exact .inr ⟨x, List.mem_cons_of_mem _ hx, h⟩
theorem zval0 : zval (ofN 0) = 0 := by rw [ofN0]; rfl
theorem zval1 : zval (ofN 1) = 1 := by rw [ofN1]; rfl
theorem thing_two {x : ZInt} {sizes : List Int} (hx : ZOk x) (l3 : x.digs.length ≤ 3) (h : thingB x 0 sizes = true) : x = ofN 0 ∨ x = ofN 1 := by
  rw [thing_val hx l3 (by decide) (n := 2) rfl (by decide), Bool.and_eq_true, decide_eq_true_eq] at h
  have hn := zval_neg hx
  obtain ⟨h1, h2⟩ := h
  have h0 : 0 ≤ zval x := by
    cases hneg : x.neg
    · rw [hneg] at hn
      have := of_decide_eq_false hn.symm
      omega
    · rw [hneg] at h1; cases h1
  have hz : zval x = 0 ∨ zval x = 1 := by omega
  rcases hz with hz | hz
  · exact .inl (zval_inj hx of0_ok.1 (by rw [hz, zval0]))
  · exact .inr (zval_inj hx of1_ok.1 (by rw [hz, zval1]))
theorem atZ_kids {vals : List ZInt} {t : Term} {j : Nat} (hj : j < t.kids.length) : atZ (kidsOf vals t) j = atZ vals (kidN t j) := by
  rw [atZ, List.getD_eq_getElem?_getD, kidsOf, List.getElem?_map, List.getElem?_eq_getElem hj, kidN, rdI_eq hj]
  rfl
theorem ofsTo_at {funs : List Fun} {terms : List Term} : ∀ {n i : Nat}, i < n → n ≤ terms.length → rdI (ofsTo funs terms n) i = rdI (ofsTo funs terms (i + 1)) i
  | 0, i, h, _ => by omega
  | n + 1, i, h, hn => by
    rcases Nat.lt_or_ge i n with h1 | h1
    · obtain ⟨t, ht⟩ := at_some (show n < terms.length by omega)
      rw [ofsTo_succ ht, ← ofsTo_at h1 (by omega)]
      have : i < (ofsTo funs terms n).length := by rw [ofsTo_len (by omega)]; exact h1
      simp [rdI, List.getD_eq_getElem?_getD, List.getElem?_append_left this]
    · obtain rfl : i = n := by omega
      rfl
theorem ofs_at {funs : List Fun} {terms : List Term} {n i : Nat} {t : Term} (hi : i < n) (hn : n ≤ terms.length) (ht : terms[i]? = some t) : rdI (ofsTo funs terms n) i = resultT funs (ofsTo funs terms i) t := by
  rw [ofsTo_at hi hn, ofsTo_succ ht]
  have : (ofsTo funs terms i).length = i := ofsTo_len (by omega)
  rw [rdI, List.getD_eq_getElem?_getD, List.getElem?_append_right (by omega), this, Nat.sub_self]
  rfl
theorem vals_bool {d : Dump} {m : Model} (h : EvOk d m) : ∀ (i : Nat) (t : Term), d.terms[i]? = some t → rdI (ofsTo d.funs d.terms d.terms.length) i = 0 → atZ (valsTo d.terms m d.terms.length) i = ofN 0 ∨ atZ (valsTo d.terms m d.terms.length) i = ofN 1 := by
  intro i
  induction i using Nat.strongRecOn with
  | _ i ih =>
    intro t ht h0
    have hi := (List.getElem?_eq_some_iff.1 ht).1
    have hok := (h.load.terms i t ht).1
    rw [atZ_eq (val_at h.load ht)]
    rw [ofs_at hi (Nat.le_refl _) ht, resultT] at h0
    rw [valueT]
    by_cases e3 : t.op = 3
    · rw [if_pos e3] at h0
      rw [if_pos e3]
      obtain ⟨a0, a1, _⟩ := hok.app e3
      have hfl := h.funs
      obtain ⟨k, hk⟩ : ∃ k : Nat, t.fn = (k : Int) := ⟨t.fn.toNat, by omega⟩
      rw [hk] at h0 a1 ⊢
      obtain ⟨_, _, _, h4⟩ := modelB_iff.1 h.right
      have hf := funs_at h4 (show k < d.funs.length by omega)
      rw [funB] at hf
      obtain ⟨b1, b2⟩ := fitsB_iff.1 hf
      have hsm := tab_sm h.mod (k := (k : Int)) (by omega) (by omega)
      rw [h0] at b2
      unfold lookT
      rcases lookRows_mem (args := kidsOf (valsTo d.terms m d.terms.length) t) (els := (tabAt m (k : Int)).els) (rows := (tabAt m (k : Int)).rows) with e | ⟨r, hr, e⟩
      · rw [e]
        exact thing_two hsm.1.1 hsm.1.2 b2
      · rw [e]
        have hb := (rowB_iff.1 (b1 r hr)).2.1
        rw [h0] at hb
        exact thing_two (hsm.2 r hr).1.1 (hsm.2 r hr).1.2 hb
    rw [if_neg e3] at h0 ⊢
    by_cases e10 : t.op = 10
    · rw [if_pos e10] at h0
      rw [if_neg (show ¬ t.op = 4 by omega), if_pos e10]
      have h3 := hok.three e10
      have hs2 := hok.sort 2 (by omega)
      rw [wantedT, if_neg e3, if_neg (by omega), if_pos e10, if_neg (by decide), h0] at hs2
      obtain ⟨q1, _⟩ := hok.kidN (k := 1) (by omega)
      obtain ⟨q2, _⟩ := hok.kidN (k := 2) (by omega)
      have g : ∀ j, j < 3 → kidN t j < i → rdI (ofsTo d.funs d.terms i) (kidN t j) = 0 → atZ (kidsOf (valsTo d.terms m d.terms.length) t) j = ofN 0 ∨ atZ (kidsOf (valsTo d.terms m d.terms.length) t) j = ofN 1 := fun j hj hlt hz => by
        obtain ⟨u, hu⟩ := at_some (show kidN t j < d.terms.length by omega)
        rw [atZ_kids (by omega)]
        refine ih _ hlt u hu ?_
        rw [ofsTo_at (show kidN t j < d.terms.length by omega) (Nat.le_refl _), ← ofsTo_at hlt (by omega)]
        exact hz
      split
      · exact g 1 (by decide) q1 h0
      · exact g 2 (by decide) q2 hs2
    rw [if_neg e10] at h0
    split at h0
    · exact absurd h0 (by decide)
    · rename_i hn
      rw [if_neg (by omega), if_neg e10, if_neg (by omega), if_neg (by omega), if_neg (by omega)]
      split
      · exact .inr rfl
      · exact .inl rfl
end Go.Proofs.YtfpmapbimhdafaaGreatDoor

namespace Go.Proofs.YtfpmapbimhdafaaGreatDoor
open Go.RowKit
set_option linter.unusedVariables false
set_option linter.unusedSimpArgs false

section
variable {w : World}
set_option maxRecDepth 100000 in
set_option maxHeartbeats 8000000 in
theorem c_EvalTerms (d : Dump) (m : Model) (vd vm : Value) (hd : kDump.agg w NoB d vd) (hm : kModel.agg w NoB m vm) :
    Calls Tryz.prog 5 #[vd, vm] w fun e w' => e = .returned (.bool true) ∧ Ext NoB w w' := by
  have hd0 := hd
  have hm0 := hm
  obtain ⟨v1, v2, v3, v4, rfl, _⟩ := dump_open hd
  obtain ⟨B1, c1, B2, c2, rfl, _, _⟩ := model_open hm
  have HD := Lib.hid hd0
  have HM := Lib.hid hm0
  have HE0 : Hid (Ext NoB w ((w.alloc (.cells #[v1, v2, v3, v4] 27)).alloc (.cells #[.slice B1 m.sizes.length c1, .slice B2 m.funs.length c2] 31))) := Lib.hid (((Ext.refl _ _).alloc _).alloc _)
  clear hd hd0 hm hm0
  go_enter Tryz.func5, Tryz.ntmps5
  go_wp2_with fail
  have HBD : Hid (Bq w.heap.size v1 v2 v3 v4 ((w.alloc (.cells #[v1, v2, v3, v4] 27)).alloc (.cells #[.slice B1 m.sizes.length c1, .slice B2 m.funs.length c2] 31))) := Lib.hid ⟨by go_simp, by go_simp, by go_simp, by go_simp⟩
  have HBM : Hid (ZB (w.heap.size + 1) (.slice B1 m.sizes.length c1) (.slice B2 m.funs.length c2) ((w.alloc (.cells #[v1, v2, v3, v4] 27)).alloc (.cells #[.slice B1 m.sizes.length c1, .slice B2 m.funs.length c2] 31))) := Lib.hid ⟨by go_simp, by go_simp⟩
  generalize (w.alloc (.cells #[v1, v2, v3, v4] 27)).alloc (.cells #[.slice B1 m.sizes.length c1, .slice B2 m.funs.length c2] 31) = w0 at *
  replace HD := Lib.hid (kDump.aggExt HD.out HE0.out)
  replace HM := Lib.hid (kModel.aggExt HM.out HE0.out)
  generalize hgd : w.heap.size = gd at *
  generalize hgm : gd + 1 = gm at *
  clear hgd hgm
  refine c_speaks.mono ?_
  rintro e u1 ⟨rfl, hq⟩
  have HQ1 := Lib.hid hq
  obtain ⟨d0, d1, d2, d3⟩ := HBD.out.ext HQ1.out (fun h => h)
  have ld := cell_lt d0
  clear hq
  go_wp2_with fail
  clear d0 d1 d2 d3 ld
  refine (c_Great d _ (kDump.aggExt HD.out HQ1.out)).mono ?_
  rintro e u2 ⟨b, rfl, hb, hq⟩
  have HQ2 := Lib.hid (HQ1.out.trans hq)
  have HSM := Lib.hid hb
  obtain ⟨d0, d1, d2, d3⟩ := HBD.out.ext HQ2.out (fun h => h)
  obtain ⟨m0, m1⟩ := HBM.out.ext HQ2.out (fun h => h)
  have ld := cell_lt d0
  have lm := cell_lt m0
  clear hq hb HQ1
  cases b with
  | true =>
    go_wp2_with fail
    go_ret
    exact ⟨rfl, HE0.out.trans HQ2.out⟩
  | false =>
  have HS := Lib.hid (HSM.out rfl)
  clear HSM
  go_wp2_with fail
  clear d0 d1 d2 d3 ld m0 m1 lm
  refine (c_rLoad d _ (kDump.aggExt HD.out HQ2.out) HS.out).mono ?_
  rintro e u3 ⟨b, rfl, hb, hq⟩
  have HQ3 := Lib.hid (HQ2.out.trans hq)
  have HLL := Lib.hid hb
  obtain ⟨d0, d1, d2, d3⟩ := HBD.out.ext HQ3.out (fun h => h)
  obtain ⟨m0, m1⟩ := HBM.out.ext HQ3.out (fun h => h)
  have ld := cell_lt d0
  have lm := cell_lt m0
  clear hq hb HQ2
  cases b with
  | false =>
    go_wp2_with fail
    go_ret
    exact ⟨rfl, HE0.out.trans HQ3.out⟩
  | true =>
  have HL := Lib.hid (HLL.out rfl)
  clear HLL
  go_wp2_with fail
  clear d0 d1 d2 d3 ld m0 m1 lm
  refine (c_Odd m _ (kModel.aggExt HM.out HQ3.out)).mono ?_
  rintro e u4 ⟨b, rfl, hb, hq⟩
  have HQ4 := Lib.hid (HQ3.out.trans hq)
  have HOO := Lib.hid hb
  obtain ⟨d0, d1, d2, d3⟩ := HBD.out.ext HQ4.out (fun h => h)
  obtain ⟨m0, m1⟩ := HBM.out.ext HQ4.out (fun h => h)
  have ld := cell_lt d0
  have lm := cell_lt m0
  clear hq hb HQ3
  cases b with
  | true =>
    go_wp2_with fail
    go_ret
    exact ⟨rfl, HE0.out.trans HQ4.out⟩
  | false =>
  have HML := Lib.hid (HOO.out rfl)
  clear HOO
  go_wp2_with fail
  clear d0 d1 d2 d3 ld m0 m1 lm
  refine (c_Wild d _ (kDump.aggExt HD.out HQ4.out) HS.out).mono ?_
  rintro e u5 ⟨b, rfl, hb, hq⟩
  have HQ5 := Lib.hid (HQ4.out.trans hq)
  have HOO := Lib.hid hb
  obtain ⟨d0, d1, d2, d3⟩ := HBD.out.ext HQ5.out (fun h => h)
  obtain ⟨m0, m1⟩ := HBM.out.ext HQ5.out (fun h => h)
  have ld := cell_lt d0
  have lm := cell_lt m0
  clear hq hb HQ4
  cases b with
  | true =>
    go_wp2_with fail
    go_ret
    exact ⟨rfl, HE0.out.trans HQ5.out⟩
  | false =>
  have HWI := Lib.hid (HOO.out rfl)
  clear HOO
  go_wp2_with fail
  clear d0 d1 d2 d3 ld m0 m1 lm
  refine (c_rModel d _ (kDump.aggExt HD.out HQ5.out) HS.out HL.out m _ (kModel.aggExt HM.out HQ5.out) HML.out).mono ?_
  rintro e u6 ⟨rfl, hq⟩
  have HQ6 := Lib.hid (HQ5.out.trans hq)
  obtain ⟨d0, d1, d2, d3⟩ := HBD.out.ext HQ6.out (fun h => h)
  obtain ⟨m0, m1⟩ := HBM.out.ext HQ6.out (fun h => h)
  have ld := cell_lt d0
  have lm := cell_lt m0
  clear hq HQ5
  cases hmb : modelB d m with
  | false =>
    go_wp2_with fail
    go_ret
    exact ⟨rfl, HE0.out.trans HQ6.out⟩
  | true =>
  have HEV : Hid (EvOk d m) := Lib.hid ⟨HS.out, HL.out, HWI.out, mod_sm hmb HML.out (mod_dig HM.out), hmb⟩
  have hml : m.funs.length ≤ 50 := HML.out.2.1
  have HMLL := Lib.hid HML.out
  clear hmb
  go_wp2_with fail
  clear d0 d1 d2 d3 ld m0 m1 lm
  refine (c_Loaded d _ (kDump.aggExt HD.out HQ6.out) HS.out HL.out).mono ?_
  rintro e u7 ⟨s, O, rfl, hscr, hgr⟩
  have HSC := Lib.hid hscr
  have HOLD : Hid (OldO O u7) := Lib.hid (by obtain ⟨p, A, vc, _, _, _, hA⟩ := hscr; exact hA.old)
  have HQ7 := Lib.hid (HQ6.out.trans hgr.1)
  have HMO := Lib.hid (kModel.aggKeep (kModel.aggExt HM.out HQ6.out) hgr.1 hgr.2)
  obtain ⟨m0, m1⟩ := HBM.out.ext HQ7.out (fun h => h)
  have lm := cell_lt m0
  obtain ⟨d0, d1, d2, d3⟩ := HBD.out.ext HQ7.out (fun h => h)
  have ld := cell_lt d0
  have HDO := Lib.hid (kDump.aggKeep (kDump.aggExt HD.out HQ6.out) hgr.1 hgr.2)
  have HLK := Lib.hid HL.out
  have HSK := Lib.hid HS.out
  have hnt := HS.out.nt
  clear hscr hgr HQ6 HD HS HL HML HWI HM
  unfold ptr
  go_wp2_with fail
  clear d0 d1 d2 d3 ld m0 m1 lm
  refine (c_All d HSC.out m _ HMO.out HEV.out).mono ?_
  rintro e u8 ⟨va, rfl, hva, hq⟩
  have HVA := Lib.hid hva
  have HE8 := Lib.hid hq
  have hvl : (valsTo d.terms m d.terms.length).length = d.terms.length := valsTo_len (Nat.le_refl _)
  obtain ⟨Va, va2, rfl, _, hma, _⟩ := Kd.one_slice hva
  rw [hvl]
  rw [hvl] at HVA
  have HVL := Lib.hid hvl
  clear hva hq hma hvl
  obtain ⟨e1, e2, e3, e4, hde, _, _, htm, _⟩ := dump_open HDO.out
  injection hde with hde
  simp only [Array.mk.injEq, List.cons.injEq, and_true] at hde
  obtain ⟨rfl, rfl, rfl, rfl⟩ := hde
  have HTM := Lib.hid htm
  obtain ⟨A3, n3, hv3, _, _, _⟩ := Kd.one_slice htm
  subst hv3
  clear htm
  obtain ⟨d0, d1, d2, d3⟩ := HBD.out.ext (HQ7.out.trans HE8.out) (fun h => h)
  obtain ⟨ap, AV, avc, s0, _, _, hA⟩ := HSC.out
  have HAR := Lib.hid hA
  have HS0 := Lib.hid s0
  have HZOK : Hid (∀ z ∈ valsTo d.terms m d.terms.length, ZOk z) := Lib.hid (fun z hz => (vals_ok HSK.out HLK.out HEV.out.wild HEV.out.mod HEV.out.funs _ (Nat.le_refl _) z hz).1)
  have HALLW := Lib.hid (HE0.out.trans (HQ7.out.trans HE8.out))
  have HB8 := Lib.hid (HBD.out.ext (HQ7.out.trans HE8.out) (fun h => h))
  have HOLD8 := Lib.hid (HOLD.out.ext HE8.out)
  have HTM8 := Lib.hid (kTerms.oneExt HTM.out HE8.out.no)
  have HAR8 := Lib.hid (hA.ext HE8.out)
  have HS08 := Lib.hid (HE8.out.cell s0 id)
  go_wp2_with fail
  clear d0 d1 d2 d3 hA s0 HSC HAR HS0 HTM HOLD HMO HDO HBD HBM HQ7 HE8 HE0
  go_loopw [60] (fun i wr => ∃ k : Nat, k ≤ d.terms.length ∧ i = .int .i64 k ∧ Hid (Ext NoB u8 wr)) (fun i _ => d.terms.length - (intOf i).toNat)
  case atStart => exact ⟨0, by omega, rfl, Lib.hid (Ext.refl _ _)⟩
  case round =>
    obtain ⟨i, hi, rfl, HER⟩ := hrel
    by_cases hlt : i < d.terms.length
    · obtain ⟨x, hx⟩ := at_some hlt
      obtain ⟨_, _, hv, _, _, hr⟩ := Kd.one_slice (kTerms.oneExt HTM8.out HER.out.no)
      injection hv with hv1 hv2 hv3
      subst hv1
      clear hv2 hv3
      obtain ⟨rb, ro, hA, _, hrow⟩ := hr (ne_nil_of_lt hlt)
      subst hA
      obtain ⟨Ka, ka, ⟨x0, x1, x2, x3⟩, hkids, _⟩ := row_term hrow hx
      have hvlt : i < (valsTo d.terms m d.terms.length).length := by have := HVL.out; omega
      obtain ⟨z, hz⟩ := at_some hvlt
      obtain ⟨_, _, hv, _, _, hr⟩ := Kd.one_slice (kZs.oneExt HVA.out HER.out.no)
      injection hv with hv1 hv2 hv3
      subst hv1
      clear hv2 hv3
      obtain ⟨ab, ao, hA, _, hrow⟩ := hr (ne_nil_of_lt hvlt)
      subst hA
      obtain ⟨Xa, xa, ⟨a0, a1⟩, hzd⟩ := row_z hrow hz
      have HX := Lib.hid hx
      have HZ := Lib.hid hz
      have HK := Lib.hid hkids
      have HZD := Lib.hid hzd
      have hkl : x.kids.length ≤ 12 := (HSK.out.te x (List.mem_of_getElem? hx)).1
      have lx := cell_lt x0
      have HE1 : Hid (Ext NoB wr (wr.alloc (.cells #[.int .i64 x.op, .int .i64 x.fn, .slice Ka x.kids.length ka, .string x.num] 63))) := Lib.hid ((Ext.refl _ _).alloc _)
      clear hr hrow hx hz hkids hzd hvlt
      go_upto_region 14 with fail
      have HXB : Hid (Bq wr.heap.size (.int .i64 x.op) (.int .i64 x.fn) (.slice Ka x.kids.length ka) (.string x.num) (wr.alloc (.cells #[.int .i64 x.op, .int .i64 x.fn, .slice Ka x.kids.length ka, .string x.num] 63))) := Lib.hid ⟨by go_simp, by go_simp, by go_simp, by go_simp⟩
      have HE8x := Lib.hid (HER.out.trans HE1.out)
      have HZDx := Lib.hid (kDigs.oneExt HZD.out HE1.out.no)
      have HKx := Lib.hid (kInts.oneExt HK.out HE1.out.no)
      have a0' := HE1.out.cell a0 id
      have a1' := HE1.out.cell a1 id
      have s0' := HE8x.out.cell HS08.out id
      generalize wr.heap.size = xg at *
      clear a0 a1 x0 x1 x2 x3 lx HE1 HER HK HZD
      generalize wr.alloc (.cells #[.int .i64 x.op, .int .i64 x.fn, .slice Ka x.kids.length ka, .string x.num] 63) = W1 at *
      unfold ptr at s0'
      have HCS : Hid (W1.drew.cell? ⟨s, 0, none⟩ = some (.pointer (some ⟨ap, 0, none⟩)) ∧ W1.drew.cell? ⟨ab, ao + i * 2, none⟩ = some (.bool z.neg) ∧ W1.drew.cell? ⟨ab, ao + i * 2 + 1, none⟩ = some (.slice Xa z.digs.length xa)) := Lib.hid ⟨s0', a0', a1'⟩
      clear s0' a0' a1'
      have jb1 : (i : Int) < (d.terms.length : Int) := by omega
      go_cut [89] from 65 to 89 (fun c wx => c = .bool false ∧ Hid (Ext NoB W1 wx))
      case first =>
        by_cases hs0 : rdI (ofsTo d.funs d.terms d.terms.length) i = 0
        · have HZE : Hid (z = ofN 0 ∨ z = ofN 1) := Lib.hid (by
            have := vals_bool HEV.out i x HX.out hs0
            rwa [atZ_eq HZ.out] at this)
          have HQS : Hid (rdI (ofsTo d.funs d.terms d.terms.length) i = 0) := Lib.hid hs0
          clear hs0
          rcases HZE.out with hze | hze
          · have HZ0 : Hid (z.digs.length = 0) := Lib.hid (by rw [hze, ofN0]; rfl)
            have qz0 : ((z.digs.length : Int) != 0) = false := by rw [HZ0.out]; rfl
            have HCM : Hid (cmpZ z (ofN 1) = -1) := Lib.hid (by rw [hze]; decide)
            clear hze
            refine wpM_begin (fun W => W.cell? ⟨s, 0, none⟩ = some (.pointer (some ⟨ap, 0, none⟩)) ∧ W.cell? ⟨ab, ao + i * 2, none⟩ = some (.bool z.neg) ∧ W.cell? ⟨ab, ao + i * 2 + 1, none⟩ = some (.slice Xa z.digs.length xa)) [] [0, 1, 2, 3, 4, 5, 6, 7, 8, 9, 10, 11, 12, 13, 14, 15, 16, 17, 18, 19, 20, 21, 22, 23, 24] (by kernel_rfl) (by kernel_rfl) (HCS.out) (fun hS0 hA => ?_)
            refine wpM_free 0 rfl (by kernel_rfl) rfl (by intro w; go_simp; try rfl) ?_; (try simp only [Act.put, List.setIfInBounds_toArray, List.set_cons_zero, List.set_cons_succ])
            refine wpM_free 1 rfl (by kernel_rfl) rfl (by intro w; go_simp; try rfl) ?_; (try simp only [Act.put, List.setIfInBounds_toArray, List.set_cons_zero, List.set_cons_succ])
            refine wpM_free 2 rfl (by kernel_rfl) rfl (by intro w; go_simp; try rfl) ?_; (try simp only [Act.put, List.setIfInBounds_toArray, List.set_cons_zero, List.set_cons_succ])
            refine wpM_take 3 hA hS0 rfl (by kernel_rfl) rfl (by intro w hs; (try dsimp only at hs); go_simp; try rfl) ?_; (try simp only [Act.put, List.setIfInBounds_toArray, List.set_cons_zero, List.set_cons_succ])
            refine wpM_free 4 rfl (by kernel_rfl) rfl (by intro w; go_simp; try rfl) ?_; (try simp only [Act.put, List.setIfInBounds_toArray, List.set_cons_zero, List.set_cons_succ])
            refine wpM_only 5 rfl (by kernel_rfl) (fun K hK => ?_)
            go_simp
            refine (c_ArOf (HAR8.out.ext (HE8x.out.drew)) (ofsTo_len (Nat.le_refl _)) i hlt).mono ?_
            rintro e W2 ⟨rfl, hq2⟩
            have hof : rdI (StOf d).ofs i = 0 := HQS.out
            rw [hof]
            clear hof
            refine hK.out _ _ ?_ (fun hS1 => ?_)
            · exact ⟨hq2.cell hS0.1 id, hq2.cell hS0.2.1 id, hq2.cell hS0.2.2 id⟩
            clear hS0 hK K; (try simp only [Act.put, List.setIfInBounds_toArray, List.set_cons_zero, List.set_cons_succ])
            refine wpM_free 6 rfl (by kernel_rfl) rfl (by intro w; go_simp; try rfl) ?_; (try simp only [Act.put, List.setIfInBounds_toArray, List.set_cons_zero, List.set_cons_succ])
            refine wpM_free 7 rfl (by kernel_rfl) rfl (by intro w; go_simp; try rfl) ?_; (try simp only [Act.put, List.setIfInBounds_toArray, List.set_cons_zero, List.set_cons_succ])
            refine wpM_free 8 rfl (by kernel_rfl) (by kernel_rfl) (by intro w; go_simp; try rfl) ?_; (try simp only [Act.put, List.setIfInBounds_toArray, List.set_cons_zero, List.set_cons_succ])
            refine wpM_free 9 rfl (by kernel_rfl) (by kernel_rfl) (by intro w; go_simp; try rfl) ?_; (try simp only [Act.put, List.setIfInBounds_toArray, List.set_cons_zero, List.set_cons_succ])
            refine wpM_free 10 rfl (by kernel_rfl) (by kernel_rfl) (by intro w; go_simp; try rfl) ?_; (try simp only [Act.put, List.setIfInBounds_toArray, List.set_cons_zero, List.set_cons_succ])
            refine wpM_take 11 hA hS1 rfl (by kernel_rfl) (by kernel_rfl) (by intro w hs; (try dsimp only at hs); go_simp; try rfl) ?_; (try simp only [Act.put, List.setIfInBounds_toArray, List.set_cons_zero, List.set_cons_succ])
            refine wpM_only 12 rfl (by kernel_rfl) (fun K hK => ?_)
            go_simp
            refine (c_Of 1 _ O ((HOLD8.out.ext HE8x.out.drew).ext hq2) (by omega)).mono ?_
            rintro e W3 ⟨v1', rfl, hv1', hq3⟩
            have HV1 := Lib.hid hv1'
            clear hv1'
            refine hK.out _ _ ?_ (fun hS2 => ?_)
            · exact ⟨hq3.cell hS1.1 id, hq3.cell hS1.2.1 id, hq3.cell hS1.2.2 id⟩
            clear hS1 hK K; (try simp only [Act.put, List.setIfInBounds_toArray, List.set_cons_zero, List.set_cons_succ])
            refine wpM_only 13 rfl (by kernel_rfl) (fun K hK => ?_)
            go_simp
            refine (c_Cmp _ _ z (ofN 1) _ O (z_agg (kDigs.oneExt HZDx.out (((Ext.refl NoB W1).drew.trans hq2).trans hq3).no)) HV1.out (HZOK.out z (List.mem_of_getElem? HZ.out)).1 of1_ok.1.1).mono ?_
            rintro e W4 ⟨rfl, hq4⟩
            rw [HCM.out]
            refine hK.out _ _ ?_ (fun hS3 => ?_)
            · exact ⟨hq4.cell hS2.1 id, hq4.cell hS2.2.1 id, hq4.cell hS2.2.2 id⟩
            clear hS2 hK K; (try simp only [Act.put, List.setIfInBounds_toArray, List.set_cons_zero, List.set_cons_succ])
            refine wpM_free 14 rfl (by kernel_rfl) (by kernel_rfl) (by intro w; go_simp; try rfl) ?_; (try simp only [Act.put, List.setIfInBounds_toArray, List.set_cons_zero, List.set_cons_succ])
            refine wpM_free 15 rfl (by kernel_rfl) rfl (by intro w; go_simp; try rfl) ?_; (try simp only [Act.put, List.setIfInBounds_toArray, List.set_cons_zero, List.set_cons_succ])
            refine wpM_free 16 rfl (by kernel_rfl) rfl (by intro w; go_simp; try rfl) ?_; (try simp only [Act.put, List.setIfInBounds_toArray, List.set_cons_zero, List.set_cons_succ])
            refine wpM_free 17 rfl (by kernel_rfl) (by kernel_rfl) (by intro w; go_simp; try rfl) ?_; (try simp only [Act.put, List.setIfInBounds_toArray, List.set_cons_zero, List.set_cons_succ])
            refine wpM_free 18 rfl (by kernel_rfl) (by kernel_rfl) (by intro w; go_simp; try rfl) ?_; (try simp only [Act.put, List.setIfInBounds_toArray, List.set_cons_zero, List.set_cons_succ])
            refine wpM_free 19 rfl (by kernel_rfl) (by kernel_rfl) (by intro w; go_simp; try rfl) ?_; (try simp only [Act.put, List.setIfInBounds_toArray, List.set_cons_zero, List.set_cons_succ])
            refine wpM_free 20 rfl (by kernel_rfl) (by kernel_rfl) (by intro w; go_simp; try rfl) ?_; (try simp only [Act.put, List.setIfInBounds_toArray, List.set_cons_zero, List.set_cons_succ])
            refine wpM_take 21 hA hS3 rfl (by kernel_rfl) (by kernel_rfl) (by intro w hs; (try dsimp only at hs); go_simp; try rfl) ?_; (try simp only [Act.put, List.setIfInBounds_toArray, List.set_cons_zero, List.set_cons_succ])
            refine wpM_free 22 rfl (by kernel_rfl) (by kernel_rfl) (by intro w; go_simp; try rfl) ?_; (try simp only [Act.put, List.setIfInBounds_toArray, List.set_cons_zero, List.set_cons_succ])
            refine wpM_free 23 rfl (by kernel_rfl) (by kernel_rfl) (by intro w; go_simp; try rfl) ?_; (try simp only [Act.put, List.setIfInBounds_toArray, List.set_cons_zero, List.set_cons_succ])
            refine wpM_free 24 rfl (by kernel_rfl) rfl (by intro w; go_simp; try rfl) ?_; (try simp only [Act.put, List.setIfInBounds_toArray, List.set_cons_zero, List.set_cons_succ])
            refine wpM_done (by kernel_rfl) ?_
            try simp only [Act.put, List.setIfInBounds_toArray, List.set_cons_zero, List.set_cons_succ, List.getElem_toArray, List.getElem_cons_zero, List.getElem_cons_succ]
            go_wp2_with fail
            go_meet
            exact ⟨rfl, Lib.hid ((((Ext.refl NoB W1).drew.trans hq2).trans hq3).trans hq4)⟩
          · have HCM : Hid (cmpZ z (ofN 1) = 0) := Lib.hid (by rw [hze]; decide)
            clear hze
            refine wpM_begin (fun W => W.cell? ⟨s, 0, none⟩ = some (.pointer (some ⟨ap, 0, none⟩)) ∧ W.cell? ⟨ab, ao + i * 2, none⟩ = some (.bool z.neg) ∧ W.cell? ⟨ab, ao + i * 2 + 1, none⟩ = some (.slice Xa z.digs.length xa)) [] [0, 1, 2, 3, 4, 5, 6, 7, 8, 9, 10, 11, 12, 13, 14, 15, 16, 17, 18, 19, 20, 21, 22, 23, 24] (by kernel_rfl) (by kernel_rfl) (HCS.out) (fun hS0 hA => ?_)
            refine wpM_free 0 rfl (by kernel_rfl) rfl (by intro w; go_simp; try rfl) ?_; (try simp only [Act.put, List.setIfInBounds_toArray, List.set_cons_zero, List.set_cons_succ])
            refine wpM_free 1 rfl (by kernel_rfl) rfl (by intro w; go_simp; try rfl) ?_; (try simp only [Act.put, List.setIfInBounds_toArray, List.set_cons_zero, List.set_cons_succ])
            refine wpM_free 2 rfl (by kernel_rfl) rfl (by intro w; go_simp; try rfl) ?_; (try simp only [Act.put, List.setIfInBounds_toArray, List.set_cons_zero, List.set_cons_succ])
            refine wpM_take 3 hA hS0 rfl (by kernel_rfl) rfl (by intro w hs; (try dsimp only at hs); go_simp; try rfl) ?_; (try simp only [Act.put, List.setIfInBounds_toArray, List.set_cons_zero, List.set_cons_succ])
            refine wpM_free 4 rfl (by kernel_rfl) rfl (by intro w; go_simp; try rfl) ?_; (try simp only [Act.put, List.setIfInBounds_toArray, List.set_cons_zero, List.set_cons_succ])
            refine wpM_only 5 rfl (by kernel_rfl) (fun K hK => ?_)
            go_simp
            refine (c_ArOf (HAR8.out.ext (HE8x.out.drew)) (ofsTo_len (Nat.le_refl _)) i hlt).mono ?_
            rintro e W2 ⟨rfl, hq2⟩
            have hof : rdI (StOf d).ofs i = 0 := HQS.out
            rw [hof]
            clear hof
            refine hK.out _ _ ?_ (fun hS1 => ?_)
            · exact ⟨hq2.cell hS0.1 id, hq2.cell hS0.2.1 id, hq2.cell hS0.2.2 id⟩
            clear hS0 hK K; (try simp only [Act.put, List.setIfInBounds_toArray, List.set_cons_zero, List.set_cons_succ])
            refine wpM_free 6 rfl (by kernel_rfl) rfl (by intro w; go_simp; try rfl) ?_; (try simp only [Act.put, List.setIfInBounds_toArray, List.set_cons_zero, List.set_cons_succ])
            refine wpM_free 7 rfl (by kernel_rfl) rfl (by intro w; go_simp; try rfl) ?_; (try simp only [Act.put, List.setIfInBounds_toArray, List.set_cons_zero, List.set_cons_succ])
            refine wpM_free 8 rfl (by kernel_rfl) (by kernel_rfl) (by intro w; go_simp; try rfl) ?_; (try simp only [Act.put, List.setIfInBounds_toArray, List.set_cons_zero, List.set_cons_succ])
            refine wpM_free 9 rfl (by kernel_rfl) (by kernel_rfl) (by intro w; go_simp; try rfl) ?_; (try simp only [Act.put, List.setIfInBounds_toArray, List.set_cons_zero, List.set_cons_succ])
            refine wpM_free 10 rfl (by kernel_rfl) (by kernel_rfl) (by intro w; go_simp; try rfl) ?_; (try simp only [Act.put, List.setIfInBounds_toArray, List.set_cons_zero, List.set_cons_succ])
            refine wpM_take 11 hA hS1 rfl (by kernel_rfl) (by kernel_rfl) (by intro w hs; (try dsimp only at hs); go_simp; try rfl) ?_; (try simp only [Act.put, List.setIfInBounds_toArray, List.set_cons_zero, List.set_cons_succ])
            refine wpM_only 12 rfl (by kernel_rfl) (fun K hK => ?_)
            go_simp
            refine (c_Of 1 _ O ((HOLD8.out.ext HE8x.out.drew).ext hq2) (by omega)).mono ?_
            rintro e W3 ⟨v1', rfl, hv1', hq3⟩
            have HV1 := Lib.hid hv1'
            clear hv1'
            refine hK.out _ _ ?_ (fun hS2 => ?_)
            · exact ⟨hq3.cell hS1.1 id, hq3.cell hS1.2.1 id, hq3.cell hS1.2.2 id⟩
            clear hS1 hK K; (try simp only [Act.put, List.setIfInBounds_toArray, List.set_cons_zero, List.set_cons_succ])
            refine wpM_only 13 rfl (by kernel_rfl) (fun K hK => ?_)
            go_simp
            refine (c_Cmp _ _ z (ofN 1) _ O (z_agg (kDigs.oneExt HZDx.out (((Ext.refl NoB W1).drew.trans hq2).trans hq3).no)) HV1.out (HZOK.out z (List.mem_of_getElem? HZ.out)).1 of1_ok.1.1).mono ?_
            rintro e W4 ⟨rfl, hq4⟩
            rw [HCM.out]
            refine hK.out _ _ ?_ (fun hS3 => ?_)
            · exact ⟨hq4.cell hS2.1 id, hq4.cell hS2.2.1 id, hq4.cell hS2.2.2 id⟩
            clear hS2 hK K; (try simp only [Act.put, List.setIfInBounds_toArray, List.set_cons_zero, List.set_cons_succ])
            refine wpM_free 14 rfl (by kernel_rfl) (by kernel_rfl) (by intro w; go_simp; try rfl) ?_; (try simp only [Act.put, List.setIfInBounds_toArray, List.set_cons_zero, List.set_cons_succ])
            refine wpM_free 15 rfl (by kernel_rfl) rfl (by intro w; go_simp; try rfl) ?_; (try simp only [Act.put, List.setIfInBounds_toArray, List.set_cons_zero, List.set_cons_succ])
            refine wpM_free 16 rfl (by kernel_rfl) rfl (by intro w; go_simp; try rfl) ?_; (try simp only [Act.put, List.setIfInBounds_toArray, List.set_cons_zero, List.set_cons_succ])
            refine wpM_skip 17 rfl (by kernel_rfl) (by kernel_rfl) ?_; (try simp only [Act.put, List.setIfInBounds_toArray, List.set_cons_zero, List.set_cons_succ])
            refine wpM_skip 18 rfl (by kernel_rfl) (by kernel_rfl) ?_; (try simp only [Act.put, List.setIfInBounds_toArray, List.set_cons_zero, List.set_cons_succ])
            refine wpM_skip 19 rfl (by kernel_rfl) (by kernel_rfl) ?_; (try simp only [Act.put, List.setIfInBounds_toArray, List.set_cons_zero, List.set_cons_succ])
            refine wpM_skip 20 rfl (by kernel_rfl) (by kernel_rfl) ?_; (try simp only [Act.put, List.setIfInBounds_toArray, List.set_cons_zero, List.set_cons_succ])
            refine wpM_skip 21 rfl (by kernel_rfl) (by kernel_rfl) ?_; (try simp only [Act.put, List.setIfInBounds_toArray, List.set_cons_zero, List.set_cons_succ])
            refine wpM_skip 22 rfl (by kernel_rfl) (by kernel_rfl) ?_; (try simp only [Act.put, List.setIfInBounds_toArray, List.set_cons_zero, List.set_cons_succ])
            refine wpM_skip 23 rfl (by kernel_rfl) (by kernel_rfl) ?_; (try simp only [Act.put, List.setIfInBounds_toArray, List.set_cons_zero, List.set_cons_succ])
            refine wpM_free 24 rfl (by kernel_rfl) rfl (by intro w; go_simp; try rfl) ?_; (try simp only [Act.put, List.setIfInBounds_toArray, List.set_cons_zero, List.set_cons_succ])
            refine wpM_done (by kernel_rfl) ?_
            try simp only [Act.put, List.setIfInBounds_toArray, List.set_cons_zero, List.set_cons_succ, List.getElem_toArray, List.getElem_cons_zero, List.getElem_cons_succ]
            go_wp2_with fail
            go_meet
            exact ⟨rfl, Lib.hid ((((Ext.refl NoB W1).drew.trans hq2).trans hq3).trans hq4)⟩
        · have qs : (rdI (ofsTo d.funs d.terms d.terms.length) i == 0) = false := by rw [beq_eq_false_iff_ne]; exact hs0
          clear hs0
          refine wpM_begin (fun W => W.cell? ⟨s, 0, none⟩ = some (.pointer (some ⟨ap, 0, none⟩))) [] [0, 1, 2, 3, 4, 5, 6, 7, 8, 9, 10, 11, 12, 13, 14, 15, 16, 17, 18, 19, 20, 21, 22, 23, 24] (by kernel_rfl) (by kernel_rfl) (HCS.out.1) (fun hS0 hA => ?_)
          refine wpM_free 0 rfl (by kernel_rfl) rfl (by intro w; go_simp; try rfl) ?_; (try simp only [Act.put, List.setIfInBounds_toArray, List.set_cons_zero, List.set_cons_succ])
          refine wpM_free 1 rfl (by kernel_rfl) rfl (by intro w; go_simp; try rfl) ?_; (try simp only [Act.put, List.setIfInBounds_toArray, List.set_cons_zero, List.set_cons_succ])
          refine wpM_free 2 rfl (by kernel_rfl) rfl (by intro w; go_simp; try rfl) ?_; (try simp only [Act.put, List.setIfInBounds_toArray, List.set_cons_zero, List.set_cons_succ])
          refine wpM_take 3 hA hS0 rfl (by kernel_rfl) rfl (by intro w hs; (try dsimp only at hs); go_simp; try rfl) ?_; (try simp only [Act.put, List.setIfInBounds_toArray, List.set_cons_zero, List.set_cons_succ])
          refine wpM_free 4 rfl (by kernel_rfl) rfl (by intro w; go_simp; try rfl) ?_; (try simp only [Act.put, List.setIfInBounds_toArray, List.set_cons_zero, List.set_cons_succ])
          refine wpM_only 5 rfl (by kernel_rfl) (fun K hK => ?_)
          go_simp
          refine (c_ArOf (HAR8.out.ext (HE8x.out.drew)) (ofsTo_len (Nat.le_refl _)) i hlt).mono ?_
          rintro e W2 ⟨rfl, hq2⟩
          have hof : rdI (StOf d).ofs i = rdI (ofsTo d.funs d.terms d.terms.length) i := rfl
          rw [hof]
          clear hof
          generalize rdI (ofsTo d.funs d.terms d.terms.length) i = so at *
          refine hK.out _ _ ?_ (fun hS1 => ?_)
          · exact hq2.cell hS0 id
          clear hS0 hK K; (try simp only [Act.put, List.setIfInBounds_toArray, List.set_cons_zero, List.set_cons_succ])
          refine wpM_free 6 rfl (by kernel_rfl) rfl (by intro w; go_simp; try rfl) ?_; (try simp only [Act.put, List.setIfInBounds_toArray, List.set_cons_zero, List.set_cons_succ])
          refine wpM_free 7 rfl (by kernel_rfl) rfl (by intro w; go_simp; try rfl) ?_; (try simp only [Act.put, List.setIfInBounds_toArray, List.set_cons_zero, List.set_cons_succ])
          refine wpM_skip 8 rfl (by kernel_rfl) (by kernel_rfl) ?_; (try simp only [Act.put, List.setIfInBounds_toArray, List.set_cons_zero, List.set_cons_succ])
          refine wpM_skip 9 rfl (by kernel_rfl) (by kernel_rfl) ?_; (try simp only [Act.put, List.setIfInBounds_toArray, List.set_cons_zero, List.set_cons_succ])
          refine wpM_skip 10 rfl (by kernel_rfl) (by kernel_rfl) ?_; (try simp only [Act.put, List.setIfInBounds_toArray, List.set_cons_zero, List.set_cons_succ])
          refine wpM_skip 11 rfl (by kernel_rfl) (by kernel_rfl) ?_; (try simp only [Act.put, List.setIfInBounds_toArray, List.set_cons_zero, List.set_cons_succ])
          refine wpM_skip 12 rfl (by kernel_rfl) (by kernel_rfl) ?_; (try simp only [Act.put, List.setIfInBounds_toArray, List.set_cons_zero, List.set_cons_succ])
          refine wpM_skip 13 rfl (by kernel_rfl) (by kernel_rfl) ?_; (try simp only [Act.put, List.setIfInBounds_toArray, List.set_cons_zero, List.set_cons_succ])
          refine wpM_skip 14 rfl (by kernel_rfl) (by kernel_rfl) ?_; (try simp only [Act.put, List.setIfInBounds_toArray, List.set_cons_zero, List.set_cons_succ])
          refine wpM_free 15 rfl (by kernel_rfl) rfl (by intro w; go_simp; try rfl) ?_; (try simp only [Act.put, List.setIfInBounds_toArray, List.set_cons_zero, List.set_cons_succ])
          refine wpM_free 16 rfl (by kernel_rfl) rfl (by intro w; go_simp; try rfl) ?_; (try simp only [Act.put, List.setIfInBounds_toArray, List.set_cons_zero, List.set_cons_succ])
          refine wpM_skip 17 rfl (by kernel_rfl) (by kernel_rfl) ?_; (try simp only [Act.put, List.setIfInBounds_toArray, List.set_cons_zero, List.set_cons_succ])
          refine wpM_skip 18 rfl (by kernel_rfl) (by kernel_rfl) ?_; (try simp only [Act.put, List.setIfInBounds_toArray, List.set_cons_zero, List.set_cons_succ])
          refine wpM_skip 19 rfl (by kernel_rfl) (by kernel_rfl) ?_; (try simp only [Act.put, List.setIfInBounds_toArray, List.set_cons_zero, List.set_cons_succ])
          refine wpM_skip 20 rfl (by kernel_rfl) (by kernel_rfl) ?_; (try simp only [Act.put, List.setIfInBounds_toArray, List.set_cons_zero, List.set_cons_succ])
          refine wpM_skip 21 rfl (by kernel_rfl) (by kernel_rfl) ?_; (try simp only [Act.put, List.setIfInBounds_toArray, List.set_cons_zero, List.set_cons_succ])
          refine wpM_skip 22 rfl (by kernel_rfl) (by kernel_rfl) ?_; (try simp only [Act.put, List.setIfInBounds_toArray, List.set_cons_zero, List.set_cons_succ])
          refine wpM_skip 23 rfl (by kernel_rfl) (by kernel_rfl) ?_; (try simp only [Act.put, List.setIfInBounds_toArray, List.set_cons_zero, List.set_cons_succ])
          refine wpM_free 24 rfl (by kernel_rfl) rfl (by intro w; go_simp; try rfl) ?_; (try simp only [Act.put, List.setIfInBounds_toArray, List.set_cons_zero, List.set_cons_succ])
          refine wpM_done (by kernel_rfl) ?_
          try simp only [Act.put, List.setIfInBounds_toArray, List.set_cons_zero, List.set_cons_succ, List.getElem_toArray, List.getElem_cons_zero, List.getElem_cons_succ]
          go_wp2_with fail
          go_meet
          exact ⟨rfl, Lib.hid ((Ext.refl NoB W1).drew.trans hq2)⟩
      case rest =>
        obtain ⟨rfl, HEC⟩ := hcut
        have HWC := Lib.hid (HE8x.out.trans HEC.out)
        have HXC := Lib.hid (HXB.out.ext HEC.out (fun h => h))
        have HKC := Lib.hid (kInts.oneExt HKx.out HEC.out.no)
        clear HCS HEC HXB HKx HZDx HE8x
        generalize W1 = W0 at *
        go_wp2_with fail
        go_loopw [10] (fun kv wq => ∃ k : Nat, k ≤ i ∧ kv = .int .i64 k ∧ Hid (Ext NoB wc wq)) (fun kv _ => i - (intOf kv).toNat)
        case atStart => exact ⟨0, Nat.zero_le _, rfl, Lib.hid (Ext.refl _ _)⟩
        case round =>
          obtain ⟨k, hki, rfl, HEK⟩ := hrel
          by_cases hkl2 : k < i
          · have hkt : k < d.terms.length := by omega
            obtain ⟨y, hy⟩ := at_some hkt
            obtain ⟨_, _, hv, _, _, hr⟩ := Kd.one_slice (kTerms.oneExt HTM8.out (HWC.out.trans HEK.out).no)
            injection hv with hv1 hv2 hv3
            subst hv1
            clear hv2 hv3
            obtain ⟨rb2, ro2, hA, _, hrow⟩ := hr (ne_nil_of_lt hkt)
            injection hA with hA
            injection hA with hA1 hA2
            subst hA1
            subst hA2
            obtain ⟨La, la, ⟨y0, y1, y2, y3⟩, hkids, _⟩ := row_term hrow hy
            have HY := Lib.hid hy
            have hyl : y.kids.length ≤ 12 := (HSK.out.te y (List.mem_of_getElem? hy)).1
            obtain ⟨d0, d1, d2, d3⟩ := HB8.out.ext (HWC.out.trans HEK.out) (fun h => h)
            obtain ⟨x0, x1, x2, x3⟩ := HXC.out.ext HEK.out (fun h => h)
            have ly := cell_lt y0
            have lx := cell_lt x0
            have ld := cell_lt d0
            have HL := Lib.hid hkids
            have HEKW := Lib.hid (HWC.out.trans HEK.out)
            clear hr hrow hy hkids
            have jb2 : (k : Int) < (i : Int) := by omega
            have jb3 : (k : Int) < (d.terms.length : Int) := by omega
            by_cases e1 : x.op = y.op
            case neg =>
              have q1 : (x.op != y.op) = true := by rw [bne_iff_ne]; exact e1
              have q1' : (x.op == y.op) = false := by rw [beq_eq_false_iff_ne]; exact e1
              have HEY : Hid (Ext NoB wc (wr.alloc (.cells #[.int .i64 y.op, .int .i64 y.fn, .slice La y.kids.length la, .string y.num] 63))) := Lib.hid (HEK.out.alloc _)
              clear e1
              go_wp2_with fail
              exact ⟨⟨k + 1, by omega, by go_num, HEY⟩, by simp [intOf]; omega⟩
            have q1 : (x.op != y.op) = false := by rw [bne_eq_false_iff_eq]; exact e1
            have q1' : (x.op == y.op) = true := by rw [beq_iff_eq]; exact e1
            by_cases e2 : x.fn = y.fn
            case neg =>
              have q2 : (x.fn != y.fn) = true := by rw [bne_iff_ne]; exact e2
              have q2' : (x.fn == y.fn) = false := by rw [beq_eq_false_iff_ne]; exact e2
              have HEY : Hid (Ext NoB wc (wr.alloc (.cells #[.int .i64 y.op, .int .i64 y.fn, .slice La y.kids.length la, .string y.num] 63))) := Lib.hid (HEK.out.alloc _)
              clear e1 e2
              go_wp2_with fail
              exact ⟨⟨k + 1, by omega, by go_num, HEY⟩, by simp [intOf]; omega⟩
            have q2 : (x.fn != y.fn) = false := by rw [bne_eq_false_iff_eq]; exact e2
            have q2' : (x.fn == y.fn) = true := by rw [beq_iff_eq]; exact e2
            by_cases e3 : x.num = y.num
            case neg =>
              have q3 : (x.num == y.num) = false := bytes_beq e3
              have q3' : (x.num != y.num) = true := by unfold bne; rw [q3]; rfl
              have q4 := ba_ne e3
              have q5 : ¬ x.num.toList = y.num.toList := fun e => e3 (ba_inj e)
              have HEY : Hid (Ext NoB wc (wr.alloc (.cells #[.int .i64 y.op, .int .i64 y.fn, .slice La y.kids.length la, .string y.num] 63))) := Lib.hid (HEK.out.alloc _)
              clear e1 e2 e3
              go_wp2_with fail
              exact ⟨⟨k + 1, by omega, by go_num, HEY⟩, by simp [intOf]; omega⟩
            have q3 : (x.num == y.num) = true := (bEqB _ _).2 e3
            have q3' : (x.num != y.num) = false := by unfold bne; rw [q3]; rfl
            by_cases e4 : x.kids.length = y.kids.length
            case neg =>
              have q4 : ((x.kids.length : Int) != (y.kids.length : Int)) = true := by rw [bne_iff_ne]; omega
              have HEY : Hid (Ext NoB wc (wr.alloc (.cells #[.int .i64 y.op, .int .i64 y.fn, .slice La y.kids.length la, .string y.num] 63))) := Lib.hid (HEK.out.alloc _)
              have HE3 := Lib.hid e3
              have q3e : x.num.toList = y.num.toList := by rw [e3]
              clear e1 e2 e3 e4
              go_wp2_with fail
              exact ⟨⟨k + 1, by omega, by go_num, HEY⟩, by simp [intOf]; omega⟩
            have q4 : ((x.kids.length : Int) != (y.kids.length : Int)) = false := by rw [bne_eq_false_iff_eq]; omega
            have q3e : x.num.toList = y.num.toList := by rw [e3]
            have HSAME : Hid (sameTo (valsTo d.terms m d.terms.length) x y x.kids.length = true → (valsTo d.terms m d.terms.length)[i]? = (valsTo d.terms m d.terms.length)[k]?) := Lib.hid (fun h => terms_same HLK.out HX.out HY.out e1 e2 e3 e4 h)
            have HE4 := Lib.hid e4
            clear e1 e2 e3 e4
            go_upto_region 22 with fail
            have HEY : Hid (Ext NoB wr (wr.alloc (.cells #[.int .i64 y.op, .int .i64 y.fn, .slice La y.kids.length la, .string y.num] 63))) := Lib.hid ((Ext.refl _ _).alloc _)
            have HYB : Hid (Bq wr.heap.size (.int .i64 y.op) (.int .i64 y.fn) (.slice La y.kids.length la) (.string y.num) (wr.alloc (.cells #[.int .i64 y.op, .int .i64 y.fn, .slice La y.kids.length la, .string y.num] 63))) := Lib.hid ⟨by go_simp, by go_simp, by go_simp, by go_simp⟩
            have HXY := Lib.hid (HXC.out.ext (HEK.out.trans HEY.out) (fun h => h))
            have HEK2 := Lib.hid (HEK.out.trans HEY.out)
            have HLY := Lib.hid (kInts.oneExt HL.out HEY.out.no)
            have HKY := Lib.hid (kInts.oneExt HKC.out HEK2.out.no)
            have HVY := Lib.hid (kZs.oneExt HVA.out (HWC.out.trans HEK2.out).no)
            obtain ⟨x0, x1, x2, x3⟩ := HXY.out
            obtain ⟨y0, y1, y2, y3⟩ := HYB.out
            have lx := cell_lt x0
            generalize wr.heap.size = yg at *
            clear d0 d1 d2 d3 ld q1 q1' q2 q2' q3 q3' q4 q3e ly HEKW HL HEY HEK
            generalize wr.alloc (.cells #[.int .i64 y.op, .int .i64 y.fn, .slice La y.kids.length la, .string y.num] 63) = W2 at *
            go_wp2_with fail
            clear x0 x1 x2 x3 y0 y1 y2 y3 lx
            go_loopw [12, 131] (fun fl jv wq => ∃ n : Nat, n ≤ x.kids.length ∧ jv = .int .i64 n ∧ fl = .bool (sameTo (valsTo d.terms m d.terms.length) x y n) ∧ Hid (Ext NoB W2 wq)) (fun _ jv _ => x.kids.length - (intOf jv).toNat)
            case atStart => exact ⟨0, Nat.zero_le _, rfl, rfl, Lib.hid (Ext.refl _ _)⟩
            case round =>
              obtain ⟨n, hn, rfl, rfl, HEJ⟩ := hrel
              by_cases hnl : n < x.kids.length
              · obtain ⟨x0, x1, x2, x3⟩ := HXY.out.ext HEJ.out (fun h => h)
                obtain ⟨y0, y1, y2, y3⟩ := HYB.out.ext HEJ.out (fun h => h)
                have hnl2 : n < y.kids.length := by have := HE4.out; omega
                obtain ⟨_, _, hv, _, _, hr⟩ := Kd.one_slice (kInts.oneExt HKY.out HEJ.out.no)
                injection hv with hv1 hv2 hv3
                subst hv1
                clear hv2 hv3
                obtain ⟨kb, ko, hA, _, k0, _⟩ := ints_at hr hnl
                subst hA
                obtain ⟨_, _, hv, _, _, hr⟩ := Kd.one_slice (kInts.oneExt HLY.out HEJ.out.no)
                injection hv with hv1 hv2 hv3
                subst hv1
                clear hv2 hv3
                obtain ⟨lb, lo, hA, _, l0, _⟩ := ints_at hr hnl2
                subst hA
                obtain ⟨p1, p2⟩ := ((HLK.out.terms i x HX.out).1).kidN hnl
                obtain ⟨p3, p4⟩ := ((HLK.out.terms k y HY.out).1).kidN hnl2
                rw [p2] at k0
                rw [p4] at l0
                have hvx : kidN x n < (valsTo d.terms m d.terms.length).length := by have := HVL.out; omega
                have hvy : kidN y n < (valsTo d.terms m d.terms.length).length := by have := HVL.out; omega
                obtain ⟨zx, hzx⟩ := at_some hvx
                obtain ⟨zy, hzy⟩ := at_some hvy
                obtain ⟨_, _, hv, _, _, hr⟩ := Kd.one_slice (kZs.oneExt HVY.out HEJ.out.no)
                injection hv with hv1 hv2 hv3
                subst hv1
                clear hv2 hv3
                obtain ⟨ab2, ao2, hA, _, hrow⟩ := hr (ne_nil_of_lt hvx)
                injection hA with hA
                injection hA with hA1 hA2
                subst hA1
                subst hA2
                obtain ⟨Pa, pa, ⟨c0, c1'⟩, hzd1⟩ := row_z hrow hzx
                obtain ⟨Pb, pb, ⟨c2', c3⟩, hzd2⟩ := row_z hrow hzy
                have HSM : Hid (sameTo (valsTo d.terms m d.terms.length) x y (n + 1) = (sameTo (valsTo d.terms m d.terms.length) x y n && decide (zx = zy))) := Lib.hid (by rw [sameTo, atZ_eq hzx, atZ_eq hzy])
                have HZ1 := Lib.hid (z_agg (kDigs.oneExt hzd1 (Ext.refl NoB wr).drew.no))
                have HZ2 := Lib.hid (z_agg (kDigs.oneExt hzd2 (Ext.refl NoB wr).drew.no))
                have jk1 : (kidN x n : Int) < (d.terms.length : Int) := by omega
                have jk2 : (kidN y n : Int) < (d.terms.length : Int) := by omega
                have jk3 : (n : Int) < (x.kids.length : Int) := by omega
                have jk4 : (n : Int) < (y.kids.length : Int) := by omega
                have HST : Hid (wr.drew.cell? ⟨xg, 2, none⟩ = some (.slice (some ⟨kb, ko, none⟩) x.kids.length ka) ∧ wr.drew.cell? ⟨yg, 2, none⟩ = some (.slice (some ⟨lb, lo, none⟩) y.kids.length la) ∧ wr.drew.cell? ⟨kb, ko + n, none⟩ = some (.int .i64 (kidN x n : Int)) ∧ wr.drew.cell? ⟨lb, lo + n, none⟩ = some (.int .i64 (kidN y n : Int)) ∧ wr.drew.cell? ⟨ab, ao + kidN x n * 2, none⟩ = some (.bool zx.neg) ∧ wr.drew.cell? ⟨ab, ao + kidN x n * 2 + 1, none⟩ = some (.slice Pa zx.digs.length pa) ∧ wr.drew.cell? ⟨ab, ao + kidN y n * 2, none⟩ = some (.bool zy.neg) ∧ wr.drew.cell? ⟨ab, ao + kidN y n * 2 + 1, none⟩ = some (.slice Pb zy.digs.length pb)) := Lib.hid ⟨x2, y2, k0, l0, c0, c1', c2', c3⟩
                clear hr hrow hzx hzy hzd1 hzd2 p1 p2 p3 p4 hvx hvy x0 x1 x2 x3 y0 y1 y2 y3 k0 l0 c0 c1' c2' c3
                generalize kidN x n = kx at *
                generalize kidN y n = ky at *
                cases hsm : sameTo (valsTo d.terms m d.terms.length) x y n with
                | false =>
                  have HS2 : Hid (sameTo (valsTo d.terms m d.terms.length) x y (n + 1) = false) := Lib.hid (by rw [HSM.out, hsm]; rfl)
                  clear hsm HSM HST HZ1 HZ2
                  go_wp2_with fail
                  go_quiet (fail)
                  go_wp2_with fail
                  exact ⟨⟨n + 1, by omega, by go_num, by rw [HS2.out], Lib.hid (HEJ.out.drewN _)⟩, by simp [intOf]; omega⟩
                | true =>
                  have HS2 : Hid (sameTo (valsTo d.terms m d.terms.length) x y (n + 1) = decide (zx = zy)) := Lib.hid (by rw [HSM.out, hsm]; rfl)
                  clear hsm HSM
                  go_wp2_with fail
                  refine wpM_begin (fun W => W.cell? ⟨xg, 2, none⟩ = some (.slice (some ⟨kb, ko, none⟩) x.kids.length ka) ∧ W.cell? ⟨yg, 2, none⟩ = some (.slice (some ⟨lb, lo, none⟩) y.kids.length la) ∧ W.cell? ⟨kb, ko + n, none⟩ = some (.int .i64 (kx : Int)) ∧ W.cell? ⟨lb, lo + n, none⟩ = some (.int .i64 (ky : Int)) ∧ W.cell? ⟨ab, ao + kx * 2, none⟩ = some (.bool zx.neg) ∧ W.cell? ⟨ab, ao + kx * 2 + 1, none⟩ = some (.slice Pa zx.digs.length pa) ∧ W.cell? ⟨ab, ao + ky * 2, none⟩ = some (.bool zy.neg) ∧ W.cell? ⟨ab, ao + ky * 2 + 1, none⟩ = some (.slice Pb zy.digs.length pb)) [18] [0, 1, 2, 3, 4, 5, 6, 7, 8, 9, 10, 11, 12, 13, 14, 15, 16, 17] (by kernel_rfl) (by kernel_rfl) (HST.out) (fun hS0 hA => ?_)
                  refine wpM_free 0 rfl (by kernel_rfl) rfl (by intro w; go_simp; try rfl) ?_; (try simp only [Act.put, List.setIfInBounds_toArray, List.set_cons_zero, List.set_cons_succ])
                  refine wpM_free 1 rfl (by kernel_rfl) rfl (by intro w; go_simp; try rfl) ?_; (try simp only [Act.put, List.setIfInBounds_toArray, List.set_cons_zero, List.set_cons_succ])
                  refine wpM_free 2 rfl (by kernel_rfl) (by kernel_rfl) (by intro w; go_simp; try rfl) ?_; (try simp only [Act.put, List.setIfInBounds_toArray, List.set_cons_zero, List.set_cons_succ])
                  refine wpM_free 3 rfl (by kernel_rfl) (by kernel_rfl) (by intro w; go_simp; try rfl) ?_; (try simp only [Act.put, List.setIfInBounds_toArray, List.set_cons_zero, List.set_cons_succ])
                  refine wpM_take 4 hA hS0 rfl (by kernel_rfl) (by kernel_rfl) (by intro w hs; (try dsimp only at hs); go_simp; try rfl) ?_; (try simp only [Act.put, List.setIfInBounds_toArray, List.set_cons_zero, List.set_cons_succ])
                  refine wpM_free 5 rfl (by kernel_rfl) (by kernel_rfl) (by intro w; go_simp; try rfl) ?_; (try simp only [Act.put, List.setIfInBounds_toArray, List.set_cons_zero, List.set_cons_succ])
                  refine wpM_free 6 rfl (by kernel_rfl) (by kernel_rfl) (by intro w; go_simp; try rfl) ?_; (try simp only [Act.put, List.setIfInBounds_toArray, List.set_cons_zero, List.set_cons_succ])
                  refine wpM_take 7 hA hS0 rfl (by kernel_rfl) (by kernel_rfl) (by intro w hs; (try dsimp only at hs); go_simp; try rfl) ?_; (try simp only [Act.put, List.setIfInBounds_toArray, List.set_cons_zero, List.set_cons_succ])
                  refine wpM_free 8 rfl (by kernel_rfl) (by kernel_rfl) (by intro w; go_simp; try rfl) ?_; (try simp only [Act.put, List.setIfInBounds_toArray, List.set_cons_zero, List.set_cons_succ])
                  refine wpM_take 9 hA hS0 rfl (by kernel_rfl) (by kernel_rfl) (by intro w hs; (try dsimp only at hs); go_simp; try rfl) ?_; (try simp only [Act.put, List.setIfInBounds_toArray, List.set_cons_zero, List.set_cons_succ])
                  refine wpM_free 10 rfl (by kernel_rfl) (by kernel_rfl) (by intro w; go_simp; try rfl) ?_; (try simp only [Act.put, List.setIfInBounds_toArray, List.set_cons_zero, List.set_cons_succ])
                  refine wpM_free 11 rfl (by kernel_rfl) (by kernel_rfl) (by intro w; go_simp; try rfl) ?_; (try simp only [Act.put, List.setIfInBounds_toArray, List.set_cons_zero, List.set_cons_succ])
                  refine wpM_take 12 hA hS0 rfl (by kernel_rfl) (by kernel_rfl) (by intro w hs; (try dsimp only at hs); go_simp; try rfl) ?_; (try simp only [Act.put, List.setIfInBounds_toArray, List.set_cons_zero, List.set_cons_succ])
                  refine wpM_free 13 rfl (by kernel_rfl) (by kernel_rfl) (by intro w; go_simp; try rfl) ?_; (try simp only [Act.put, List.setIfInBounds_toArray, List.set_cons_zero, List.set_cons_succ])
                  refine wpM_free 14 rfl (by kernel_rfl) (by kernel_rfl) (by intro w; go_simp; try rfl) ?_; (try simp only [Act.put, List.setIfInBounds_toArray, List.set_cons_zero, List.set_cons_succ])
                  refine wpM_take 15 hA hS0 rfl (by kernel_rfl) (by kernel_rfl) (by intro w hs; (try dsimp only at hs); go_simp; try rfl) ?_; (try simp only [Act.put, List.setIfInBounds_toArray, List.set_cons_zero, List.set_cons_succ])
                  refine wpM_free 16 rfl (by kernel_rfl) (by kernel_rfl) (by intro w; go_simp; try rfl) ?_; (try simp only [Act.put, List.setIfInBounds_toArray, List.set_cons_zero, List.set_cons_succ])
                  refine wpM_take 17 hA hS0 rfl (by kernel_rfl) (by kernel_rfl) (by intro w hs; (try dsimp only at hs); go_simp; try rfl) ?_; (try simp only [Act.put, List.setIfInBounds_toArray, List.set_cons_zero, List.set_cons_succ])
                  refine wpM_last 18 rfl (by kernel_rfl) (by decide) (fun K hK => ?_)
                  go_simp
                  refine (c_zSame _ _ zx zy _ O HZ1.out HZ2.out).mono ?_
                  rintro e W5 ⟨rfl, hq5⟩
                  have HE5 := Lib.hid (HEJ.out.trans ((Ext.refl NoB wr).drew.trans hq5))
                  rw [← HS2.out]
                  clear hq5
                  refine hK.out _ _ ?_
                  clear hK K; (try simp only [Act.put, List.setIfInBounds_toArray, List.set_cons_zero, List.set_cons_succ])
                  refine wpM_free 19 rfl (by kernel_rfl) rfl (by intro w; go_simp; try rfl) ?_; (try simp only [Act.put, List.setIfInBounds_toArray, List.set_cons_zero, List.set_cons_succ])
                  refine wpM_free 20 rfl (by kernel_rfl) rfl (by intro w; go_simp; try rfl) ?_; (try simp only [Act.put, List.setIfInBounds_toArray, List.set_cons_zero, List.set_cons_succ])
                  refine wpM_done (by kernel_rfl) ?_
                  clear hS0
                  go_wp2_with fail
                  exact ⟨⟨n + 1, by omega, by go_num, rfl, HE5⟩, by simp [intOf]; omega⟩
              · obtain rfl : n = x.kids.length := by omega
                clear hnl hn
                cases hsm : sameTo (valsTo d.terms m d.terms.length) x y x.kids.length with
                | false =>
                  clear hsm
                  go_wp2_with fail
                  go_quiet (fail)
                  go_wp2_with fail
                  exact ⟨⟨k + 1, by omega, by go_num, Lib.hid (HEK2.out.trans (HEJ.out.drewN _))⟩, by simp [intOf]; omega⟩
                | true =>
                  have hzk : (valsTo d.terms m d.terms.length)[k]? = some z := by rw [← HSAME.out hsm]; exact HZ.out
                  clear hsm
                  obtain ⟨_, _, hv, _, _, hr⟩ := Kd.one_slice (kZs.oneExt HVY.out HEJ.out.no)
                  injection hv with hv1 hv2 hv3
                  subst hv1
                  clear hv2 hv3
                  have hvlt : i < (valsTo d.terms m d.terms.length).length := by have := HVL.out; omega
                  obtain ⟨ab2, ao2, hA, _, hrow⟩ := hr (ne_nil_of_lt hvlt)
                  injection hA with hA
                  injection hA with hA1 hA2
                  subst hA1
                  subst hA2
                  obtain ⟨Pa, pa, ⟨c0, c1'⟩, hzd1⟩ := row_z hrow HZ.out
                  obtain ⟨Pb, pb, ⟨c2', c3⟩, hzd2⟩ := row_z hrow hzk
                  have HZ1 := Lib.hid (z_agg (kDigs.oneExt hzd1 (Ext.refl NoB wr).drew.no))
                  have HZ2 := Lib.hid (z_agg (kDigs.oneExt hzd2 (Ext.refl NoB wr).drew.no))
                  have HST : Hid (wr.drew.cell? ⟨ab, ao + i * 2, none⟩ = some (.bool z.neg) ∧ wr.drew.cell? ⟨ab, ao + i * 2 + 1, none⟩ = some (.slice Pa z.digs.length pa) ∧ wr.drew.cell? ⟨ab, ao + k * 2, none⟩ = some (.bool z.neg) ∧ wr.drew.cell? ⟨ab, ao + k * 2 + 1, none⟩ = some (.slice Pb z.digs.length pb)) := Lib.hid ⟨c0, c1', c2', c3⟩
                  clear hr hrow hzd1 hzd2 hzk hvlt c0 c1' c2' c3
                  go_wp2_with fail
                  refine wpM_begin (fun W => W.cell? ⟨ab, ao + i * 2, none⟩ = some (.bool z.neg) ∧ W.cell? ⟨ab, ao + i * 2 + 1, none⟩ = some (.slice Pa z.digs.length pa) ∧ W.cell? ⟨ab, ao + k * 2, none⟩ = some (.bool z.neg) ∧ W.cell? ⟨ab, ao + k * 2 + 1, none⟩ = some (.slice Pb z.digs.length pb)) [10] [0, 1, 2, 3, 4, 5, 6, 7, 8, 9] (by kernel_rfl) (by kernel_rfl) (HST.out) (fun hS0 hA => ?_)
                  refine wpM_free 0 rfl (by kernel_rfl) rfl (by intro w; go_simp; try rfl) ?_; (try simp only [Act.put, List.setIfInBounds_toArray, List.set_cons_zero, List.set_cons_succ])
                  refine wpM_free 1 rfl (by kernel_rfl) rfl (by intro w; go_simp; try rfl) ?_; (try simp only [Act.put, List.setIfInBounds_toArray, List.set_cons_zero, List.set_cons_succ])
                  refine wpM_free 2 rfl (by kernel_rfl) (by kernel_rfl) (by intro w; go_simp; try rfl) ?_; (try simp only [Act.put, List.setIfInBounds_toArray, List.set_cons_zero, List.set_cons_succ])
                  refine wpM_free 3 rfl (by kernel_rfl) (by kernel_rfl) (by intro w; go_simp; try rfl) ?_; (try simp only [Act.put, List.setIfInBounds_toArray, List.set_cons_zero, List.set_cons_succ])
                  refine wpM_free 4 rfl (by kernel_rfl) (by kernel_rfl) (by intro w; go_simp; try rfl) ?_; (try simp only [Act.put, List.setIfInBounds_toArray, List.set_cons_zero, List.set_cons_succ])
                  refine wpM_take 5 hA hS0 rfl (by kernel_rfl) (by kernel_rfl) (by intro w hs; (try dsimp only at hs); go_simp; try rfl) ?_; (try simp only [Act.put, List.setIfInBounds_toArray, List.set_cons_zero, List.set_cons_succ])
                  refine wpM_free 6 rfl (by kernel_rfl) (by kernel_rfl) (by intro w; go_simp; try rfl) ?_; (try simp only [Act.put, List.setIfInBounds_toArray, List.set_cons_zero, List.set_cons_succ])
                  refine wpM_free 7 rfl (by kernel_rfl) (by kernel_rfl) (by intro w; go_simp; try rfl) ?_; (try simp only [Act.put, List.setIfInBounds_toArray, List.set_cons_zero, List.set_cons_succ])
                  refine wpM_free 8 rfl (by kernel_rfl) (by kernel_rfl) (by intro w; go_simp; try rfl) ?_; (try simp only [Act.put, List.setIfInBounds_toArray, List.set_cons_zero, List.set_cons_succ])
                  refine wpM_take 9 hA hS0 rfl (by kernel_rfl) (by kernel_rfl) (by intro w hs; (try dsimp only at hs); go_simp; try rfl) ?_; (try simp only [Act.put, List.setIfInBounds_toArray, List.set_cons_zero, List.set_cons_succ])
                  refine wpM_last 10 rfl (by kernel_rfl) (by decide) (fun K hK => ?_)
                  go_simp
                  refine (c_zSame _ _ z z _ O HZ1.out HZ2.out).mono ?_
                  rintro e W5 ⟨rfl, hq5⟩
                  have HE5 := Lib.hid (HEJ.out.trans ((Ext.refl NoB wr).drew.trans hq5))
                  rw [decide_eq_true (rfl : z = z)]
                  clear hq5
                  refine hK.out _ _ ?_
                  clear hK K; (try simp only [Act.put, List.setIfInBounds_toArray, List.set_cons_zero, List.set_cons_succ])
                  refine wpM_free 11 rfl (by kernel_rfl) (by kernel_rfl) (by intro w; go_simp; try rfl) ?_; (try simp only [Act.put, List.setIfInBounds_toArray, List.set_cons_zero, List.set_cons_succ])
                  refine wpM_free 12 rfl (by kernel_rfl) rfl (by intro w; go_simp; try rfl) ?_; (try simp only [Act.put, List.setIfInBounds_toArray, List.set_cons_zero, List.set_cons_succ])
                  refine wpM_done (by kernel_rfl) ?_
                  clear hS0
                  go_wp2_with fail
                  exact ⟨⟨k + 1, by omega, by go_num, Lib.hid (HEK2.out.trans HE5.out)⟩, by simp [intOf]; omega⟩
          · obtain rfl : k = i := by omega
            clear hkl2 hki
            go_wp2_with fail
            exact ⟨⟨k + 1, by omega, by go_num, Lib.hid (HWC.out.trans HEK.out)⟩, by simp [intOf]; omega⟩
    · obtain rfl : i = d.terms.length := by omega
      clear hlt
      go_wp2_with fail
      go_ret
      exact ⟨rfl, HALLW.out.trans HER.out⟩
end
end Go.Proofs.YtfpmapbimhdafaaGreatDoor
