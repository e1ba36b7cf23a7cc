/- Contracts: whether a table may be a function's. Contracts: whether a model may be one of a script's. What each term is, in plain words: right numbers of few digits. Contracts: what each term of a script is. Contracts: whether all that is asserted at a check-sat is true. -/
import Derived.Test.YtfpmapbimhdafaaGreatDoorPG
import Derived.Test.YtfpmapbimhdafaaGreatDoorPE
import Derived.Test.YtfpmapbimhdafaaGreatDoorPD
namespace Go.Proofs.YtfpmapbimhdafaaGreatDoor
open Go.RowKit
set_option linter.unusedVariables false
set_option linter.unusedSimpArgs false

def argsTo (sorts : List Int) (args : List ZInt) (sizes : List Int) : Nat → Bool
  | 0 => true
  | k + 1 => argsTo sorts args sizes k && thingB (atZ args k) (rdI sorts k).toNat sizes
theorem argsTo_false {sorts : List Int} {args : List ZInt} {sizes : List Int} {k : Nat} (h : thingB (atZ args k) (rdI sorts k).toNat sizes = false) : ∀ n, k < n → argsTo sorts args sizes n = false
  | 0, hn => by omega
  | n + 1, hn => by
    rw [argsTo]
    rcases Nat.lt_or_ge k n with h' | h'
    · rw [argsTo_false h n h']; rfl
    · obtain rfl : k = n := by omega
      rw [h, Bool.and_false]
def rowB (f : Fun) (sizes : List Int) (r : TRow) : Bool := decide (r.args.length = f.args.length) && (thingB r.value f.result.toNat sizes && argsTo f.args r.args sizes r.args.length)
def fitsB (f : Fun) (t : Table) (sizes : List Int) : Bool := t.rows.all (rowB f sizes) && thingB t.els f.result.toNat sizes
theorem fits_bad {f : Fun} {t : Table} {sizes : List Int} {k : Nat} {r : TRow} (hk : t.rows[k]? = some r) (h : rowB f sizes r = false) : fitsB f t sizes = false := by
  rw [fitsB, Bool.and_eq_false_iff]
  exact .inl (List.all_eq_false.2 ⟨r, List.mem_of_getElem? hk, by simp [h]⟩)
theorem fits_end {f : Fun} {t : Table} {sizes : List Int} (h : (t.rows.take t.rows.length).all (rowB f sizes) = true) : fitsB f t sizes = thingB t.els f.result.toNat sizes := by
  rw [List.take_of_length_le (Nat.le_refl _)] at h
  rw [fitsB, h]
  rfl
theorem all_snoc {α : Type} {l : List α} {k : Nat} {x : α} {p : α → Bool} (hk : l[k]? = some x) (h : (l.take k).all p = true) (hx : p x = true) : (l.take (k + 1)).all p = true := by
  rw [take_snoc' hk, List.all_append, h, List.all_cons, hx]
  rfl
def Bt (g : Nat) (v0 v1 v2 : Value) (W : World) : Prop := W.cell? ⟨g, 0, none⟩ = some v0 ∧ W.cell? ⟨g, 1, none⟩ = some v1 ∧ W.cell? ⟨g, 2, none⟩ = some v2
theorem Bt.ext {g : Nat} {v0 v1 v2 : Value} {W W' : World} (h : Bt g v0 v1 v2 W) (he : Ext NoB W W') : Bt g v0 v1 v2 W' := ⟨he.cell h.1 id, he.cell h.2.1 id, he.cell h.2.2 id⟩

section
variable {w : World} {O : Nat → Prop}
set_option maxRecDepth 100000 in
set_option maxHeartbeats 4000000 in
theorem c_fits (f : Fun) (t : Table) (sizes : List Int) (vf vt vs : Value) (hf : kFun.agg w O f vf) (ht : kTable.agg w O t vt) (hs : kInts.one w O sizes vs) (hr0 : 0 ≤ f.result) (hr1 : f.result < sizes.length) (ha : ArgsOk sizes.length f.args) :
    Calls Tryz.prog 37 #[vf, vt, vs] w fun e w' => e = .returned (.bool (fitsB f t sizes)) ∧ Ext NoB w w' := by
  obtain ⟨B, bc, rfl, hfa, _, _⟩ := fun_open hf
  obtain ⟨R, rc, D, dc, rfl, hrm, hrl, hrr0, hels⟩ := table_open ht
  have hrows : kRows.one w O t.rows (.slice R t.rows.length rc) := Kd.slice_mk hrl hrm hrr0
  clear hrr0
  obtain ⟨A3, n3, hv3, _, hsm, _⟩ := Kd.one_slice hs
  subst hv3
  have hmr : t.rows.length ≤ 9223372036854775807 := by unfold maxLen at hrm; omega
  obtain ⟨rs, hrs⟩ : ∃ rs : Nat, f.result = (rs : Int) := ⟨f.result.toNat, (Int.toNat_of_nonneg hr0).symm⟩
  have hrsl : rs < sizes.length := by omega
  have HRS : Hid (f.result.toNat = rs) := Lib.hid (by omega)
  rw [hrs]
  have HFA := Lib.hid hfa
  have HROWS := Lib.hid hrows
  have HELS := Lib.hid hels
  have HS := Lib.hid hs
  have HA := Lib.hid ha
  clear hf ht hfa hrows hels hs ha hrm hrl hsm hrs hr0 hr1
  go_enter Tryz.func37, Tryz.ntmps37
  go_wp2_with fail
  have HB1 : Hid (Bt w.heap.size (.string f.name) (.slice B f.args.length bc) (.int .i64 (rs : Int)) ((w.alloc (.cells #[.string f.name, .slice B f.args.length bc, .int .i64 (rs : Int)] 71)).alloc (.cells #[.slice R t.rows.length rc, .bool t.els.neg, .slice D t.els.digs.length dc] 58))) := Lib.hid ⟨by go_simp, by go_simp, by go_simp⟩
  have HB2 : Hid (Bt (w.heap.size + 1) (.slice R t.rows.length rc) (.bool t.els.neg) (.slice D t.els.digs.length dc) ((w.alloc (.cells #[.string f.name, .slice B f.args.length bc, .int .i64 (rs : Int)] 71)).alloc (.cells #[.slice R t.rows.length rc, .bool t.els.neg, .slice D t.els.digs.length dc] 58))) := Lib.hid ⟨by go_simp, by go_simp, by go_simp⟩
  have HE0 : Hid (Ext NoB w ((w.alloc (.cells #[.string f.name, .slice B f.args.length bc, .int .i64 (rs : Int)] 71)).alloc (.cells #[.slice R t.rows.length rc, .bool t.els.neg, .slice D t.els.digs.length dc] 58))) := Lib.hid (((Ext.refl _ _).alloc _).alloc _)
  generalize (w.alloc (.cells #[.string f.name, .slice B f.args.length bc, .int .i64 (rs : Int)] 71)).alloc (.cells #[.slice R t.rows.length rc, .bool t.els.neg, .slice D t.els.digs.length dc] 58) = w0 at *
  go_loopw [14] (fun i wr => ∃ k : Nat, k ≤ t.rows.length ∧ i = .int .i64 k ∧ Hid (Ext NoB w0 wr ∧ (t.rows.take k).all (rowB f sizes) = true)) (fun i _ => t.rows.length - (intOf i).toNat)
  case atStart => exact ⟨0, by omega, rfl, Lib.hid ⟨Ext.refl _ _, rfl⟩⟩
  case round =>
    obtain ⟨k, hk, rfl, HR⟩ := hrel
    obtain ⟨f0, f1, f2⟩ := HB1.out.ext HR.out.1
    obtain ⟨t0, t1, t2⟩ := HB2.out.ext HR.out.1
    have HEr := Lib.hid (HE0.out.trans HR.out.1)
    have HSr := Lib.hid (kInts.oneExt HS.out HEr.out.no)
    have lf := cell_lt f0
    have lt := cell_lt t0
    by_cases hlt : k < t.rows.length
    · obtain ⟨r, hx⟩ := at_some hlt
      have hrowsr := kRows.oneExt HROWS.out HEr.out.no
      obtain ⟨_, _, hv, _, _, hrr⟩ := Kd.one_slice hrowsr
      injection hv with hv1 hv2 hv3
      subst hv1
      clear hv2 hv3
      obtain ⟨rb, ro, hR, _, hrow⟩ := hrr (ne_nil_of_lt hlt)
      subst hR
      obtain ⟨Ra, rac, Rv, rvc, ⟨x0, x1, x2⟩, hargs, hval⟩ := row_row hrow hx
      have hargs' := hargs
      obtain ⟨_, _, hv, _, ham, _⟩ := Kd.one_slice hargs'
      injection hv with hv1 hv2 hv3
      clear hv1 hv2
      rw [← hv3] at ham
      clear hv3
      have hma : r.args.length ≤ 9223372036854775807 := by
        obtain ⟨_, _, hv, h1, h2, _⟩ := Kd.one_slice hargs'
        unfold maxLen at h2
        omega
      have HARGS := Lib.hid hargs
      have HVAL := Lib.hid hval
      have HX := Lib.hid hx
      have lx := cell_lt x0
      clear hargs hargs' hval hrow hrr hx hrowsr ham
      have hE1 : Ext NoB wr (wr.alloc (.cells #[.slice Ra r.args.length rac, .bool r.value.neg, .slice Rv r.value.digs.length rvc] 60)) := (Ext.refl _ _).alloc _
      have HE1 := Lib.hid hE1
      clear hE1
      by_cases hne : r.args.length = f.args.length
      · have hb : ((r.args.length : Int) != (f.args.length : Int)) = false := by rw [bne_eq_false_iff_eq]; omega
        have HN := Lib.hid hne
        clear hne
        go_wp2_with fail
        refine (c_thing _ _ r.value rs sizes _ O (kZ.aggExt HVAL.out HE1.out.no) (kInts.oneExt HSr.out HE1.out.no) hrsl).mono ?_
        rintro e w2 ⟨rfl, he⟩
        have HE2 := Lib.hid (HE1.out.trans he)
        have y0 : w2.cell? ⟨wr.heap.size, 0, none⟩ = some (.slice Ra r.args.length rac) := he.cell (by go_simp) (fun h => h)
        have hev := HEr.out.trans HE2.out
        cases hz : thingB r.value rs sizes with
        | false =>
          have HF : Hid (fitsB f t sizes = false) := Lib.hid (fits_bad HX.out (by rw [rowB, HRS.out, hz, Bool.false_and, Bool.and_false]))
          have HEV := Lib.hid hev
          clear hz he hev
          go_wp2_with fail
          go_ret
          exact ⟨retB HF.out.symm, HEV.out⟩
        | true =>
          have HZ := Lib.hid hz
          have HEV := Lib.hid hev
          have HA2 := Lib.hid (kZs.oneExt HARGS.out HE2.out.no)
          clear hz he hev
          go_wp2_with fail
          go_loopw [37] (fun i wq => ∃ j : Nat, j ≤ r.args.length ∧ i = .int .i64 j ∧ Hid (Ext NoB w2 wq ∧ argsTo f.args r.args sizes j = true)) (fun i _ => r.args.length - (intOf i).toNat)
          case atStart => exact ⟨0, by omega, rfl, Lib.hid ⟨Ext.refl _ _, rfl⟩⟩
          case round =>
            obtain ⟨j, hj, rfl, HQ⟩ := hrel
            have HEq := Lib.hid (HEV.out.trans HQ.out.1)
            by_cases hja : j < r.args.length
            · obtain ⟨z, hzx⟩ := at_some hja
              have hargs := kZs.oneExt HA2.out HQ.out.1.no
              obtain ⟨_, _, hv, _, _, hrr⟩ := Kd.one_slice hargs
              injection hv with hv1 hv2 hv3
              subst hv1
              clear hv2 hv3
              obtain ⟨ab, ao, hR, _, hrow⟩ := hrr (ne_nil_of_lt hja)
              subst hR
              obtain ⟨Rz, rzc, ⟨z0, z1⟩, hzd⟩ := row_z hrow hzx
              have hjf : j < f.args.length := by have := HN.out; omega
              obtain ⟨_, _, hv, _, _, hfr⟩ := Kd.one_slice (kInts.oneExt HFA.out HEq.out.no)
              injection hv with hv1 hv2 hv3
              subst hv1
              clear hv2 hv3
              obtain ⟨fb, fo, hB, _, fa, _⟩ := ints_at hfr hjf
              subst hB
              obtain ⟨ha0, ha1⟩ := HA.out j hjf
              obtain ⟨aj, haj⟩ : ∃ aj : Nat, rdI f.args j = (aj : Int) := ⟨(rdI f.args j).toNat, (Int.toNat_of_nonneg ha0).symm⟩
              rw [haj] at fa ha1
              have hajl : aj < sizes.length := by omega
              have HT : Hid (thingB (atZ r.args j) (rdI f.args j).toNat sizes = thingB z aj sizes) := Lib.hid (by rw [atZ_eq hzx, haj, Int.toNat_natCast])
              have HZD := Lib.hid (zv_mk (x := z) hzd)
              have f1 := (HB1.out.ext ((HR.out.1.trans HE2.out).trans HQ.out.1)).2.1
              have lz := cell_lt z0
              have lfb := cell_lt fa
              have lf1 := cell_lt f1
              have hE3 : Ext NoB wr (wr.alloc (.cells #[.bool z.neg, .slice Rz z.digs.length rzc] 50)) := (Ext.refl _ _).alloc _
              have HE3 := Lib.hid hE3
              have HS9 : Hid ((wr.alloc (.cells #[.bool z.neg, .slice Rz z.digs.length rzc] 50)).drew.cell? ⟨wr.heap.size, 0, none⟩ = some (.bool z.neg) ∧ (wr.alloc (.cells #[.bool z.neg, .slice Rz z.digs.length rzc] 50)).drew.cell? ⟨wr.heap.size, 1, none⟩ = some (.slice Rz z.digs.length rzc) ∧ (wr.alloc (.cells #[.bool z.neg, .slice Rz z.digs.length rzc] 50)).drew.cell? ⟨w.heap.size, 1, none⟩ = some (.slice (some ⟨fb, fo, none⟩) f.args.length bc) ∧ (wr.alloc (.cells #[.bool z.neg, .slice Rz z.digs.length rzc] 50)).drew.cell? ⟨fb, fo + j, none⟩ = some (.int .i64 (aj : Int))) := Lib.hid ⟨by go_simp, by go_simp, hE3.drew.cell f1 id, hE3.drew.cell fa id⟩
              have jb0 : (0 : Int) ≤ (j : Int) := by omega
              have jb1 : (j : Int) < (f.args.length : Int) := by omega
              clear hargs hrr hrow hzx hfr ha0 ha1 haj hzd hE3 f1 fa y0
              go_wp2_with fail
              refine wpM_begin (fun W => W.cell? ⟨wr.heap.size, 0, none⟩ = some (.bool z.neg) ∧ W.cell? ⟨wr.heap.size, 1, none⟩ = some (.slice Rz z.digs.length rzc) ∧ W.cell? ⟨w.heap.size, 1, none⟩ = some (.slice (some ⟨fb, fo, none⟩) f.args.length bc) ∧ W.cell? ⟨fb, fo + j, none⟩ = some (.int .i64 (aj : Int))) [] [0, 1, 2, 3, 4, 5, 6, 7, 8] (by kernel_rfl) (by kernel_rfl) (HS9.out) (fun hS0 hA => ?_)
              refine wpM_take 0 hA hS0 rfl (by kernel_rfl) rfl (by intro w hs; (try dsimp only at hs); go_simp; try rfl) ?_; (try simp only [Act.put, List.setIfInBounds_toArray, List.set_cons_zero, List.set_cons_succ])
              refine wpM_free 1 rfl (by kernel_rfl) rfl (by intro w; go_simp; try rfl) ?_; (try simp only [Act.put, List.setIfInBounds_toArray, List.set_cons_zero, List.set_cons_succ])
              refine wpM_take 2 hA hS0 rfl (by kernel_rfl) rfl (by intro w hs; (try dsimp only at hs); go_simp; try rfl) ?_; (try simp only [Act.put, List.setIfInBounds_toArray, List.set_cons_zero, List.set_cons_succ])
              refine wpM_free 3 rfl (by kernel_rfl) rfl (by intro w; go_simp; try rfl) ?_; (try simp only [Act.put, List.setIfInBounds_toArray, List.set_cons_zero, List.set_cons_succ])
              refine wpM_free 4 rfl (by kernel_rfl) rfl (by intro w; go_simp; try rfl) ?_; (try simp only [Act.put, List.setIfInBounds_toArray, List.set_cons_zero, List.set_cons_succ])
              refine wpM_take 5 hA hS0 rfl (by kernel_rfl) rfl (by intro w hs; (try dsimp only at hs); go_simp; try rfl) ?_; (try simp only [Act.put, List.setIfInBounds_toArray, List.set_cons_zero, List.set_cons_succ])
              refine wpM_free 6 rfl (by kernel_rfl) rfl (by intro w; go_simp; try rfl) ?_; (try simp only [Act.put, List.setIfInBounds_toArray, List.set_cons_zero, List.set_cons_succ])
              refine wpM_only 7 rfl (by kernel_rfl) (fun K hK => ?_)
              go_simp
              refine (c_thing _ _ z aj sizes _ O (kZ.aggExt HZD.out (HE3.out.drew.no)) (kInts.oneExt HS.out ((HEq.out.trans HE3.out).drew.no)) hajl).mono ?_
              rintro e w5 ⟨rfl, hq⟩
              refine hK.out _ _ ?_ (fun hS1 => ?_)
              · exact ⟨hq.cell hS0.1 id, hq.cell hS0.2.1 id, hq.cell hS0.2.2.1 id, hq.cell hS0.2.2.2 id⟩
              clear hS0 hK K; (try simp only [Act.put, List.setIfInBounds_toArray, List.set_cons_zero, List.set_cons_succ])
              refine wpM_free 8 rfl (by kernel_rfl) rfl (by intro w; go_simp; try rfl) ?_; (try simp only [Act.put, List.setIfInBounds_toArray, List.set_cons_zero, List.set_cons_succ])
              refine wpM_done (by kernel_rfl) ?_
              have HE5 := Lib.hid (HE3.out.drew.trans hq)
              clear hS1 hq
              cases hzz : thingB z aj sizes with
              | false =>
                have HF : Hid (fitsB f t sizes = false) := Lib.hid (fits_bad HX.out (by rw [rowB, argsTo_false (k := j) (by rw [HT.out, hzz]) _ hja, Bool.and_false, Bool.and_false]))
                clear hzz
                go_wp2_with fail
                go_ret
                exact ⟨retB HF.out.symm, HEq.out.trans HE5.out⟩
              | true =>
                have HZZ := Lib.hid hzz
                clear hzz
                go_wp2_with fail
                exact ⟨⟨j + 1, by omega, by go_num, Lib.hid ⟨HQ.out.1.trans HE5.out, by rw [argsTo, HQ.out.2, HT.out, HZZ.out]; rfl⟩⟩, by simp [intOf]; omega⟩
            · obtain rfl : j = r.args.length := by omega
              have HROW : Hid (rowB f sizes r = true) := Lib.hid (by rw [rowB, decide_eq_true HN.out, HRS.out, HZ.out, HQ.out.2]; rfl)
              clear hja y0
              go_wp2_with fail
              exact ⟨⟨k + 1, by omega, by go_num, Lib.hid ⟨HR.out.1.trans (HE2.out.trans HQ.out.1), all_snoc HX.out HR.out.2 HROW.out⟩⟩, by simp [intOf]; omega⟩
      · have hb : ((r.args.length : Int) != (f.args.length : Int)) = true := by rw [bne_iff_ne]; omega
        have HF : Hid (fitsB f t sizes = false) := Lib.hid (fits_bad HX.out (by rw [rowB, decide_eq_false hne]; rfl))
        clear hne
        go_wp2_with fail
        go_ret
        exact ⟨retB HF.out.symm, HEr.out.trans HE1.out⟩
    · obtain rfl : k = t.rows.length := by omega
      have HF : Hid (fitsB f t sizes = thingB t.els rs sizes) := Lib.hid (by rw [fits_end HR.out.2, HRS.out])
      clear hlt
      go_wp2_with fail
      refine (c_thing _ _ t.els rs sizes _ O (kZ.aggExt HELS.out HEr.out.no) HSr.out hrsl).mono ?_
      rintro e w2 ⟨rfl, he⟩
      have HE2 := Lib.hid (HEr.out.trans he)
      rw [← HF.out]
      clear he
      go_wp2_with fail
      go_ret
      exact ⟨rfl, HE2.out⟩
end
end Go.Proofs.YtfpmapbimhdafaaGreatDoor

namespace Go.Proofs.YtfpmapbimhdafaaGreatDoor
open Go.RowKit
set_option linter.unusedVariables false
set_option linter.unusedSimpArgs false

def sizeOkB (sizes : List Int) (k : Nat) : Bool := decide (k < 2) || (decide (1 ≤ rdI sizes k) && decide (rdI sizes k ≤ 1000))
def sizesTo (sizes : List Int) : Nat → Bool
  | 0 => true
  | k + 1 => sizesTo sizes k && sizeOkB sizes k
theorem sizesTo_false {sizes : List Int} {k : Nat} (h : sizeOkB sizes k = false) : ∀ n, k < n → sizesTo sizes n = false
  | 0, hn => by omega
  | n + 1, hn => by
    rw [sizesTo]
    rcases Nat.lt_or_ge k n with h' | h'
    · rw [sizesTo_false h n h']; rfl
    · obtain rfl : k = n := by omega
      rw [h, Bool.and_false]
def funB (d : Dump) (m : Model) (k : Nat) : Bool := fitsB (funAt d.funs (k : Int)) (tabAt m (k : Int)) m.sizes
def funsTo (d : Dump) (m : Model) : Nat → Bool
  | 0 => true
  | k + 1 => funsTo d m k && funB d m k
theorem funsTo_false {d : Dump} {m : Model} {k : Nat} (h : funB d m k = false) : ∀ n, k < n → funsTo d m n = false
  | 0, hn => by omega
  | n + 1, hn => by
    rw [funsTo]
    rcases Nat.lt_or_ge k n with h' | h'
    · rw [funsTo_false h n h']; rfl
    · obtain rfl : k = n := by omega
      rw [h, Bool.and_false]
/-- May a model be? -/
def modelB (d : Dump) (m : Model) : Bool := decide (m.sizes.length = d.sorts.length) && (decide (m.funs.length = d.funs.length) && (sizesTo m.sizes m.sizes.length && funsTo d m d.funs.length))
section
variable {w : World} {O : Nat → Prop} {s : Nat}
set_option maxRecDepth 100000 in
set_option maxHeartbeats 8000000 in
theorem c_evRight (d : Dump) (h : Scr w O s d) (hs : Small d) (hl : LoadOk d) (m : Model) (vm : Value) (hm : kModel.agg w O m vm) :
    Calls Tryz.prog 15 #[ptr s, vm] w fun e w' => e = .returned (.bool (modelB d m)) ∧ Ext NoB w w' := by
  obtain ⟨p, A, vc, s0, s1, hv, hA⟩ := h
  obtain ⟨A1, c1, A2, c2, rfl, hsz, htb⟩ := model_open hm
  have HA := Lib.hid hA
  have HM1 := Lib.hid hsz
  have HM2 := Lib.hid htb
  have hS1 : ∀ x ∈ d.sorts, x.args.length ≤ 1000000000 := fun x hx => by have := (hs.so x hx).1; omega
  have hF1 : ∀ x ∈ d.funs, x.args.length ≤ 1000000000 := fun x hx => by have := (hs.fu x hx).1; omega
  have hns := hs.ns
  have hnf := hs.nf
  have HS1 := Lib.hid hS1
  have HF1 := Lib.hid hF1
  have HL := Lib.hid hl
  have hmx : m.sizes.length ≤ 9223372036854775807 := by
    obtain ⟨_, _, _, h1, h2, _⟩ := Kd.one_slice hsz
    unfold maxLen at h2
    omega
  have lw := cell_lt s0
  clear hv hA s1 hs hl hm hsz htb hS1 hF1
  unfold ptr at *
  have HE0 : Hid (Ext NoB w (w.alloc (.cells #[.slice A1 m.sizes.length c1, .slice A2 m.funs.length c2] 31))) := Lib.hid ((Ext.refl _ _).alloc _)
  have HB0 : Hid ((w.alloc (.cells #[.slice A1 m.sizes.length c1, .slice A2 m.funs.length c2] 31)).cell? ⟨w.heap.size, 0, none⟩ = some (.slice A1 m.sizes.length c1) ∧ (w.alloc (.cells #[.slice A1 m.sizes.length c1, .slice A2 m.funs.length c2] 31)).cell? ⟨w.heap.size, 1, none⟩ = some (.slice A2 m.funs.length c2)) := Lib.hid ⟨by go_simp, by go_simp⟩
  have HST : Hid ((w.alloc (.cells #[.slice A1 m.sizes.length c1, .slice A2 m.funs.length c2] 31)).drew.cell? ⟨s, 0, none⟩ = some (.pointer (some ⟨p, 0, none⟩))) := Lib.hid (HE0.out.drew.cell s0 id)
  clear s0
  go_enter Tryz.func15, Tryz.ntmps15
  go_wp2_with fail
  generalize w.alloc (.cells #[.slice A1 m.sizes.length c1, .slice A2 m.funs.length c2] 31) = w0 at *
  refine wpM_begin (fun W => W.cell? ⟨s, 0, none⟩ = some (.pointer (some ⟨p, 0, none⟩))) [] [0, 1, 2, 3, 4, 5, 6, 7, 8, 9, 10, 11] (by kernel_rfl) (by kernel_rfl) (HST.out) (fun hS0 hA => ?_)
  refine wpM_free 0 rfl (by kernel_rfl) rfl (by intro w; go_simp; try rfl) ?_; (try simp only [Act.put, List.setIfInBounds_toArray, List.set_cons_zero, List.set_cons_succ])
  refine wpM_free 1 rfl (by kernel_rfl) rfl (by intro w; go_simp; try rfl) ?_; (try simp only [Act.put, List.setIfInBounds_toArray, List.set_cons_zero, List.set_cons_succ])
  refine wpM_free 2 rfl (by kernel_rfl) rfl (by intro w; go_simp; try rfl) ?_; (try simp only [Act.put, List.setIfInBounds_toArray, List.set_cons_zero, List.set_cons_succ])
  refine wpM_take 3 hA hS0 rfl (by kernel_rfl) rfl (by intro w hs; (try dsimp only at hs); go_simp; try rfl) ?_; (try simp only [Act.put, List.setIfInBounds_toArray, List.set_cons_zero, List.set_cons_succ])
  refine wpM_free 5 rfl (by kernel_rfl) rfl (by intro w; go_simp; try rfl) ?_; (try simp only [Act.put, List.setIfInBounds_toArray, List.set_cons_zero, List.set_cons_succ])
  refine wpM_free 6 rfl (by kernel_rfl) rfl (by intro w; go_simp; try rfl) ?_; (try simp only [Act.put, List.setIfInBounds_toArray, List.set_cons_zero, List.set_cons_succ])
  refine wpM_free 7 rfl (by kernel_rfl) rfl (by intro w; go_simp; try rfl) ?_; (try simp only [Act.put, List.setIfInBounds_toArray, List.set_cons_zero, List.set_cons_succ])
  refine wpM_take 8 hA hS0 rfl (by kernel_rfl) rfl (by intro w hs; (try dsimp only at hs); go_simp; try rfl) ?_; (try simp only [Act.put, List.setIfInBounds_toArray, List.set_cons_zero, List.set_cons_succ])
  refine wpM_only 4 rfl (by kernel_rfl) (fun K hK => ?_)
  go_simp
  refine (c_Sorts (HA.out.ext HE0.out.drew) HS1.out (by show d.sorts.length ≤ _; omega)).mono ?_
  rintro e w2 ⟨v2, rfl, hv2, hq2⟩
  have hv2 : kSrts.one w2 O d.sorts v2 := hv2
  obtain ⟨V2, vc2, hv2e, _, _, _⟩ := Kd.one_slice hv2
  subst hv2e
  clear hv2
  refine hK.out _ _ ?_ (fun hS1 => ?_)
  · exact hq2.cell hS0 id
  clear hS0 hK K; (try simp only [Act.put, List.setIfInBounds_toArray, List.set_cons_zero, List.set_cons_succ])
  refine wpM_only 9 rfl (by kernel_rfl) (fun K hK => ?_)
  go_simp
  refine (c_Funs (HA.out.ext (HE0.out.drew.trans hq2)) HF1.out (by show d.funs.length ≤ _; omega)).mono ?_
  rintro e w3 ⟨v3, rfl, hv3, hq3⟩
  have hv3 : kFuns.one w3 O d.funs v3 := hv3
  obtain ⟨V3, vc3, hv3e, _, _, _⟩ := Kd.one_slice hv3
  subst hv3e
  have HV3 := Lib.hid hv3
  clear hv3
  refine hK.out _ _ ?_ (fun hS2 => ?_)
  · exact hq3.cell hS1 id
  clear hS1 hK K; (try simp only [Act.put, List.setIfInBounds_toArray, List.set_cons_zero, List.set_cons_succ])
  refine wpM_free 10 rfl (by kernel_rfl) rfl (by intro w; go_simp; try rfl) ?_; (try simp only [Act.put, List.setIfInBounds_toArray, List.set_cons_zero, List.set_cons_succ])
  refine wpM_free 11 rfl (by kernel_rfl) rfl (by intro w; go_simp; try rfl) ?_; (try simp only [Act.put, List.setIfInBounds_toArray, List.set_cons_zero, List.set_cons_succ])
  refine wpM_done (by kernel_rfl) ?_
  have HE3 := Lib.hid ((HE0.out.drew.trans hq2).trans hq3)
  have HE03 := Lib.hid (((Ext.refl NoB w0).drew.trans hq2).trans hq3)
  have HB3 : Hid (w3.cell? ⟨w.heap.size, 0, none⟩ = some (.slice A1 m.sizes.length c1) ∧ w3.cell? ⟨w.heap.size, 1, none⟩ = some (.slice A2 m.funs.length c2)) := Lib.hid ⟨HE03.out.cell HB0.out.1 id, HE03.out.cell HB0.out.2 id⟩
  clear hS2 hq2 hq3 HE0 HE03
  obtain ⟨b0, b1⟩ := HB3.out
  have lb := cell_lt b0
  by_cases e1 : m.sizes.length = d.sorts.length
  · have q1 : ((m.sizes.length : Int) != (d.sorts.length : Int)) = false := by rw [bne_eq_false_iff_eq]; omega
    by_cases e2 : m.funs.length = d.funs.length
    · have q2 : ((m.funs.length : Int) != (d.funs.length : Int)) = false := by rw [bne_eq_false_iff_eq]; omega
      have HM : Hid (modelB d m = (sizesTo m.sizes m.sizes.length && funsTo d m d.funs.length)) := Lib.hid (by rw [modelB, decide_eq_true e1, decide_eq_true e2]; rfl)
      have E1 := Lib.hid e1
      have E2 := Lib.hid e2
      clear e1 e2
      go_wp2_with fail
      clear b0 b1
      go_loopw [38] (fun i wr => ∃ k : Nat, k ≤ m.sizes.length ∧ i = .int .i64 k ∧ Hid (Ext NoB w3 wr ∧ sizesTo m.sizes k = true)) (fun i _ => m.sizes.length - (intOf i).toNat)
      case atStart => exact ⟨0, by omega, rfl, Lib.hid ⟨Ext.refl _ _, rfl⟩⟩
      case round =>
        obtain ⟨k, hk, rfl, HR⟩ := hrel
        by_cases hlt : k < m.sizes.length
        · obtain ⟨_, _, hv, _, _, hr⟩ := Kd.one_slice (kInts.oneExt HM1.out ((HE3.out.trans HR.out.1).no))
          injection hv with hv1 hv2 hv3
          subst hv1
          clear hv2 hv3
          obtain ⟨ib, io, hI, _, i0, _⟩ := ints_at hr hlt
          subst hI
          have li := cell_lt i0
          cases hz : sizeOkB m.sizes k with
          | false =>
            have HF : Hid (modelB d m = false) := Lib.hid (by rw [HM.out, sizesTo_false hz _ hlt]; rfl)
            have hz2 : ¬ k < 2 ∧ (¬ 1 ≤ rdI m.sizes k ∨ ¬ rdI m.sizes k ≤ 1000) := by
              simp only [sizeOkB, Bool.or_eq_false_iff, Bool.and_eq_false_iff, decide_eq_false_iff_not] at hz
              exact hz
            obtain ⟨z1, z2⟩ := hz2
            have q3 : decide ((1 : Int) < (k : Int)) = true := by rw [decide_eq_true_eq]; omega
            by_cases z3 : rdI m.sizes k < 1
            · have q4 : decide (rdI m.sizes k < 1) = true := decide_eq_true z3
              clear hz z2 hr
              go_wp2_with fail
              go_ret
              exact ⟨retB HF.out.symm, HE3.out.trans HR.out.1⟩
            · have q4 : decide (rdI m.sizes k < 1) = false := decide_eq_false z3
              have q5 : decide (1000 < rdI m.sizes k) = true := by rw [decide_eq_true_eq]; omega
              clear hz z2 hr
              go_wp2_with fail
              go_ret
              exact ⟨retB HF.out.symm, HE3.out.trans HR.out.1⟩
          | true =>
            have HZ := Lib.hid hz
            have hz2 : k < 2 ∨ (1 ≤ rdI m.sizes k ∧ rdI m.sizes k ≤ 1000) := by
              simp only [sizeOkB, Bool.or_eq_true, Bool.and_eq_true, decide_eq_true_eq] at hz
              exact hz
            clear hz hr
            by_cases z1 : k < 2
            · have q3 : decide ((1 : Int) < (k : Int)) = false := by rw [decide_eq_false_iff_not]; omega
              clear hz2
              go_wp2_with fail
              exact ⟨⟨k + 1, by omega, by go_num, Lib.hid ⟨HR.out.1, by rw [sizesTo, HR.out.2, HZ.out]; rfl⟩⟩, by simp [intOf]; omega⟩
            · have q3 : decide ((1 : Int) < (k : Int)) = true := by rw [decide_eq_true_eq]; omega
              obtain ⟨z2, z3⟩ : 1 ≤ rdI m.sizes k ∧ rdI m.sizes k ≤ 1000 := hz2.resolve_left z1
              have q4 : decide (rdI m.sizes k < 1) = false := by rw [decide_eq_false_iff_not]; omega
              have q5 : decide (1000 < rdI m.sizes k) = false := by rw [decide_eq_false_iff_not]; omega
              clear hz2
              go_wp2_with fail
              exact ⟨⟨k + 1, by omega, by go_num, Lib.hid ⟨HR.out.1, by rw [sizesTo, HR.out.2, HZ.out]; rfl⟩⟩, by simp [intOf]; omega⟩
        · obtain rfl : k = m.sizes.length := by omega
          have HM' : Hid (modelB d m = funsTo d m d.funs.length) := Lib.hid (by rw [HM.out, HR.out.2]; rfl)
          have HRE := Lib.hid HR.out.1
          clear hlt HR
          go_wp2_with fail
          go_loopw [56] (fun i wq => ∃ k : Nat, k ≤ d.funs.length ∧ i = .int .i64 k ∧ Hid (Ext NoB w3 wq ∧ funsTo d m k = true)) (fun i _ => d.funs.length - (intOf i).toNat)
          case atStart => exact ⟨0, by omega, rfl, Lib.hid ⟨HRE.out, rfl⟩⟩
          case round =>
            clear HRE
            obtain ⟨k, hk, rfl, HR⟩ := hrel
            have HEq := Lib.hid (HE3.out.trans HR.out.1)
            by_cases hlt : k < d.funs.length
            · obtain ⟨f, hf⟩ := at_some hlt
              obtain ⟨_, _, hv, _, _, hr⟩ := Kd.one_slice (kFuns.oneExt HV3.out HR.out.1.no)
              injection hv with hv1 hv2 hv3
              subst hv1
              clear hv2 hv3
              obtain ⟨fb, fo, hF, _, hrow⟩ := hr (ne_nil_of_lt hlt)
              subst hF
              obtain ⟨Fa, fac, ⟨x0, x1, x2⟩, hfa, hfn, hfw⟩ := row_fun hrow hf
              have hlm : k < m.funs.length := by have := E2.out; omega
              obtain ⟨t, ht⟩ := at_some hlm
              obtain ⟨_, _, hv, _, _, hr⟩ := Kd.one_slice (kTables.oneExt HM2.out HEq.out.no)
              injection hv with hv1 hv2 hv3
              subst hv1
              clear hv2 hv3
              obtain ⟨tb, tof, hT, _, hrow⟩ := hr (ne_nil_of_lt hlm)
              subst hT
              obtain ⟨Tr, trc, Te, tec, ⟨y0, y1, y2⟩, htab⟩ := row_table hrow ht
              have HFB : Hid (funB d m k = fitsB f t m.sizes) := Lib.hid (by rw [funB, funAt_eq hf, tabAt_eq ht])
              obtain ⟨g1, g2, g3⟩ := HL.out.funs f (List.mem_of_getElem? hf)
              rw [← E1.out] at g1 g3
              have lx := cell_lt x0
              have ly := cell_lt y0
              have hE1 : Ext NoB wr (wr.alloc (.cells #[.string f.name, .slice Fa f.args.length fac, .int .i64 f.result] 71)) := (Ext.refl _ _).alloc _
              have HE1 := Lib.hid hE1
              have HVF := Lib.hid (fun_mk (f := f) (kInts.oneExt hfa (hE1.no.drew)) hfn hfw)
              have HVT := Lib.hid (kTable.aggExt htab (hE1.no.drew))
              have HVS := Lib.hid (kInts.oneExt HM1.out ((HEq.out.trans hE1).no.drew))
              have HG1 := Lib.hid g1
              have hb := HB3.out
              have HST2 : Hid ((wr.alloc (.cells #[.string f.name, .slice Fa f.args.length fac, .int .i64 f.result] 71)).drew.cell? ⟨wr.heap.size, 0, none⟩ = some (.string f.name) ∧ (wr.alloc (.cells #[.string f.name, .slice Fa f.args.length fac, .int .i64 f.result] 71)).drew.cell? ⟨wr.heap.size, 1, none⟩ = some (.slice Fa f.args.length fac) ∧ (wr.alloc (.cells #[.string f.name, .slice Fa f.args.length fac, .int .i64 f.result] 71)).drew.cell? ⟨wr.heap.size, 2, none⟩ = some (.int .i64 f.result) ∧ (wr.alloc (.cells #[.string f.name, .slice Fa f.args.length fac, .int .i64 f.result] 71)).drew.cell? ⟨w.heap.size, 0, none⟩ = some (.slice A1 m.sizes.length c1) ∧ (wr.alloc (.cells #[.string f.name, .slice Fa f.args.length fac, .int .i64 f.result] 71)).drew.cell? ⟨w.heap.size, 1, none⟩ = some (.slice (some ⟨tb, tof, none⟩) m.funs.length c2) ∧ (wr.alloc (.cells #[.string f.name, .slice Fa f.args.length fac, .int .i64 f.result] 71)).drew.cell? ⟨tb, tof + k * 3, none⟩ = some (.slice Tr t.rows.length trc) ∧ (wr.alloc (.cells #[.string f.name, .slice Fa f.args.length fac, .int .i64 f.result] 71)).drew.cell? ⟨tb, tof + k * 3 + 1, none⟩ = some (.bool t.els.neg) ∧ (wr.alloc (.cells #[.string f.name, .slice Fa f.args.length fac, .int .i64 f.result] 71)).drew.cell? ⟨tb, tof + k * 3 + 2, none⟩ = some (.slice Te t.els.digs.length tec)) := Lib.hid ⟨by go_simp, by go_simp, by go_simp, (HR.out.1.trans hE1.drew).cell hb.1 id, (HR.out.1.trans hE1.drew).cell hb.2 id, hE1.drew.cell y0 id, hE1.drew.cell y1 id, hE1.drew.cell y2 id⟩
              have jb0 : (0 : Int) ≤ (k : Int) := by omega
              have jb1 : (k : Int) < (m.funs.length : Int) := by omega
              clear hr hrow htab hfa hf ht hE1 g1 hb y0 y1 y2 hfn
              go_wp2_with fail
              refine wpM_begin (fun W => W.cell? ⟨wr.heap.size, 0, none⟩ = some (.string f.name) ∧ W.cell? ⟨wr.heap.size, 1, none⟩ = some (.slice Fa f.args.length fac) ∧ W.cell? ⟨wr.heap.size, 2, none⟩ = some (.int .i64 f.result) ∧ W.cell? ⟨w.heap.size, 0, none⟩ = some (.slice A1 m.sizes.length c1) ∧ W.cell? ⟨w.heap.size, 1, none⟩ = some (.slice (some ⟨tb, tof, none⟩) m.funs.length c2) ∧ W.cell? ⟨tb, tof + k * 3, none⟩ = some (.slice Tr t.rows.length trc) ∧ W.cell? ⟨tb, tof + k * 3 + 1, none⟩ = some (.bool t.els.neg) ∧ W.cell? ⟨tb, tof + k * 3 + 2, none⟩ = some (.slice Te t.els.digs.length tec)) [] [0, 1, 2, 3, 4, 5, 6, 7, 8, 9] (by kernel_rfl) (by kernel_rfl) (HST2.out) (fun hS0 hA => ?_)
              refine wpM_take 0 hA hS0 rfl (by kernel_rfl) rfl (by intro w hs; (try dsimp only at hs); go_simp; try rfl) ?_; (try simp only [Act.put, List.setIfInBounds_toArray, List.set_cons_zero, List.set_cons_succ])
              refine wpM_free 1 rfl (by kernel_rfl) rfl (by intro w; go_simp; try rfl) ?_; (try simp only [Act.put, List.setIfInBounds_toArray, List.set_cons_zero, List.set_cons_succ])
              refine wpM_take 2 hA hS0 rfl (by kernel_rfl) rfl (by intro w hs; (try dsimp only at hs); go_simp; try rfl) ?_; (try simp only [Act.put, List.setIfInBounds_toArray, List.set_cons_zero, List.set_cons_succ])
              refine wpM_free 3 rfl (by kernel_rfl) rfl (by intro w; go_simp; try rfl) ?_; (try simp only [Act.put, List.setIfInBounds_toArray, List.set_cons_zero, List.set_cons_succ])
              refine wpM_free 4 rfl (by kernel_rfl) rfl (by intro w; go_simp; try rfl) ?_; (try simp only [Act.put, List.setIfInBounds_toArray, List.set_cons_zero, List.set_cons_succ])
              refine wpM_take 5 hA hS0 rfl (by kernel_rfl) rfl (by intro w hs; (try dsimp only at hs); go_simp; try rfl) ?_; (try simp only [Act.put, List.setIfInBounds_toArray, List.set_cons_zero, List.set_cons_succ])
              refine wpM_free 6 rfl (by kernel_rfl) rfl (by intro w; go_simp; try rfl) ?_; (try simp only [Act.put, List.setIfInBounds_toArray, List.set_cons_zero, List.set_cons_succ])
              refine wpM_take 7 hA hS0 rfl (by kernel_rfl) rfl (by intro w hs; (try dsimp only at hs); go_simp; try rfl) ?_; (try simp only [Act.put, List.setIfInBounds_toArray, List.set_cons_zero, List.set_cons_succ])
              refine wpM_only 8 rfl (by kernel_rfl) (fun K hK => ?_)
              go_simp
              refine (c_fits f t m.sizes _ _ _ HVF.out HVT.out HVS.out g2 g3 HG1.out).mono ?_
              rintro e w5 ⟨rfl, hq⟩
              refine hK.out _ _ ?_ (fun hS1 => ?_)
              · exact ⟨hq.cell hS0.1 id, hq.cell hS0.2.1 id, hq.cell hS0.2.2.1 id, hq.cell hS0.2.2.2.1 id, hq.cell hS0.2.2.2.2.1 id, hq.cell hS0.2.2.2.2.2.1 id, hq.cell hS0.2.2.2.2.2.2.1 id, hq.cell hS0.2.2.2.2.2.2.2 id⟩
              clear hS0 hK K; (try simp only [Act.put, List.setIfInBounds_toArray, List.set_cons_zero, List.set_cons_succ])
              refine wpM_free 9 rfl (by kernel_rfl) rfl (by intro w; go_simp; try rfl) ?_; (try simp only [Act.put, List.setIfInBounds_toArray, List.set_cons_zero, List.set_cons_succ])
              refine wpM_done (by kernel_rfl) ?_
              have HE5 := Lib.hid (HE1.out.drew.trans hq)
              clear hS1 hq
              cases hz : fitsB f t m.sizes with
              | false =>
                have HF : Hid (modelB d m = false) := Lib.hid (by rw [HM'.out, funsTo_false (by rw [HFB.out, hz]) _ hlt])
                clear hz
                go_wp2_with fail
                go_ret
                exact ⟨retB HF.out.symm, HEq.out.trans HE5.out⟩
              | true =>
                have HZ := Lib.hid hz
                clear hz
                go_wp2_with fail
                exact ⟨⟨k + 1, by omega, by go_num, Lib.hid ⟨HR.out.1.trans HE5.out, by rw [funsTo, HR.out.2, HFB.out, HZ.out]; rfl⟩⟩, by simp [intOf]; omega⟩
            · obtain rfl : k = d.funs.length := by omega
              have HF : Hid (modelB d m = true) := Lib.hid (by rw [HM'.out, HR.out.2])
              clear hlt
              go_wp2_with fail
              go_ret
              exact ⟨retB HF.out.symm, HEq.out⟩
    · have q2 : ((m.funs.length : Int) != (d.funs.length : Int)) = true := by rw [bne_iff_ne]; omega
      have HF : Hid (modelB d m = false) := Lib.hid (by rw [modelB, decide_eq_false e2]; simp)
      clear e1 e2
      go_wp2_with fail
      go_ret
      exact ⟨retB HF.out.symm, HE3.out⟩
  · have q1 : ((m.sizes.length : Int) != (d.sorts.length : Int)) = true := by rw [bne_iff_ne]; omega
    have HF : Hid (modelB d m = false) := Lib.hid (by rw [modelB, decide_eq_false e1]; simp)
    clear e1
    go_wp2_with fail
    go_ret
    exact ⟨retB HF.out.symm, HE3.out⟩
end
end Go.Proofs.YtfpmapbimhdafaaGreatDoor

namespace Go.Proofs.YtfpmapbimhdafaaGreatDoor
open Go.RowKit
set_option linter.unusedVariables false
set_option linter.unusedSimpArgs false

/-- A number as it must be. -/
def ZOk (x : ZInt) : Prop := zRight x = true ∧ DigR x.digs
theorem digR_append {xs : List Int} {d : Int} (h : DigR xs) (h0 : 0 ≤ d) (h1 : d < 1000000000) : DigR (xs ++ [d]) := by
  intro k hk
  rw [List.length_append, List.length_singleton] at hk
  rcases Nat.lt_or_ge k xs.length with hlt | hge
  · have := h k hlt
    rwa [show rdI (xs ++ [d]) k = rdI xs k by simp [rdI, List.getD_eq_getElem?_getD, List.getElem?_append_left hlt]]
  · obtain rfl : k = xs.length := by omega
    rw [show rdI (xs ++ [d]) xs.length = d by simp [rdI, List.getD_eq_getElem?_getD]]
    exact ⟨h0, h1⟩
theorem digR_nil : DigR [] := fun k hk => by cases hk
theorem plusTo_dig {xs ys : List Int} (hx : DigR xs) (hy : DigR ys) : ∀ k, k ≤ xs.length → DigR (plusTo xs ys k).1 ∧ 0 ≤ (plusTo xs ys k).2 ∧ (plusTo xs ys k).2 ≤ 1
  | 0, _ => ⟨digR_nil, by simp [plusTo], by simp [plusTo]⟩
  | k + 1, hk => by
    obtain ⟨h1, h2, h3⟩ := plusTo_dig hx hy k (by omega)
    have hxk := hx k (by omega)
    by_cases hyk : k < ys.length
    · rw [plusTo_both (show plusTo xs ys k = ((plusTo xs ys k).1, (plusTo xs ys k).2) from rfl) hyk]
      have := hy k hyk
      exact ⟨digR_append h1 (by omega) (by omega), by simp only; omega, by simp only; omega⟩
    · rw [plusTo_one (show plusTo xs ys k = ((plusTo xs ys k).1, (plusTo xs ys k).2) from rfl) hyk]
      exact ⟨digR_append h1 (by omega) (by omega), by simp only; omega, by simp only; omega⟩
theorem plusE_dig {xs ys : List Int} (hx : DigR xs) (hy : DigR ys) : DigR (plusE xs ys) := by
  obtain ⟨h1, h2, h3⟩ := plusTo_dig hx hy xs.length (Nat.le_refl _)
  exact digR_append h1 (by omega) (by omega)
theorem plusD_dig {xs ys : List Int} (hx : DigR xs) (hy : DigR ys) : DigR (plusD xs ys) := by
  rw [plusD]
  split
  · exact plusE_dig hy hx
  · exact plusE_dig hx hy
theorem plusD_len (xs ys : List Int) : (plusD xs ys).length = max xs.length ys.length + 1 := by
  rw [plusD]
  split <;> rw [plusE, List.length_append, plusTo_len, List.length_singleton] <;> omega
theorem minusTo_dig {xs ys : List Int} (hx : DigR xs) (hy : DigR ys) : ∀ k, k ≤ xs.length → DigR (minusTo xs ys k).1 ∧ 0 ≤ (minusTo xs ys k).2 ∧ (minusTo xs ys k).2 ≤ 1
  | 0, _ => ⟨digR_nil, by simp [minusTo], by simp [minusTo]⟩
  | k + 1, hk => by
    obtain ⟨h1, h2, h3⟩ := minusTo_dig hx hy k (by omega)
    have hxk := hx k (by omega)
    have hyk : 0 ≤ (if k < ys.length then rdI ys k else 0) ∧ (if k < ys.length then rdI ys k else 0) < 1000000000 := by
      split
      · exact hy k ‹_›
      · omega
    rw [minusTo_step (show minusTo xs ys k = ((minusTo xs ys k).1, (minusTo xs ys k).2) from rfl) rfl]
    generalize (if k < ys.length then rdI ys k else 0) = y at *
    refine ⟨digR_append h1 ?_ ?_, ?_, ?_⟩ <;> split <;> omega
theorem minusD_dig {xs ys : List Int} (hx : DigR xs) (hy : DigR ys) : DigR (minusD xs ys) := (minusTo_dig hx hy _ (Nat.le_refl _)).1
theorem minusD_len (xs ys : List Int) : (minusD xs ys).length = xs.length := minusTo_len xs ys _
theorem digR_cut {xs : List Int} (h : DigR xs) : DigR (cutL xs) := fun k hk => by
  rw [rdI_cut hk]
  exact h k (by have := cutL_len xs; have := cutTo_le xs xs.length; omega)
theorem signZ_ok {neg : Bool} {xs : List Int} (h : DigR xs) : ZOk (signZ neg xs) := ⟨signZ_right h, by
  rw [signZ]
  split
  · exact digR_nil
  · exact digR_cut h⟩
theorem addZ_ok {x y : ZInt} (hx : DigR x.digs) (hy : DigR y.digs) : ZOk (addZ x y) := by
  rw [addZ]
  split
  · exact signZ_ok (plusD_dig hx hy)
  · split
    · exact signZ_ok (minusD_dig hy hx)
    · exact signZ_ok (minusD_dig hx hy)
theorem addZ_len {x y : ZInt} : (addZ x y).digs.length ≤ max x.digs.length y.digs.length + 1 := by
  rw [addZ]
  split
  · have := signZ_len (neg := x.neg) (xs := plusD x.digs y.digs)
    have := plusD_len x.digs y.digs
    omega
  · split
    · have := signZ_len (neg := y.neg) (xs := minusD y.digs x.digs)
      have := minusD_len y.digs x.digs
      omega
    · have := signZ_len (neg := x.neg) (xs := minusD x.digs y.digs)
      have := minusD_len x.digs y.digs
      omega
theorem negZ_ok {x : ZInt} (hx : DigR x.digs) : ZOk (negZ x) := signZ_ok hx
theorem subZ_ok {x y : ZInt} (hx : DigR x.digs) (hy : DigR y.digs) : ZOk (subZ x y) := addZ_ok hx (negZ_ok hy).2
theorem subZ_len {x y : ZInt} : (subZ x y).digs.length ≤ max x.digs.length y.digs.length + 1 := by
  have h1 := addZ_len (x := x) (y := negZ y)
  have h2 := negZ_len (x := y)
  unfold subZ
  omega
theorem mulZ_ok {x y : ZInt} (hx : DigR x.digs) (hy : DigR y.digs) : ZOk (mulZ x y) := signZ_ok (mulOut_dig hx hy _ (Nat.le_refl _))
theorem parseZ_ok {s : ByteArray} (h : NumOk s) : ZOk (parseZ s) := signZ_ok (parseTo_dig h _ (by omega))
theorem of0_ok : ZOk (ofN 0) ∧ (ofN 0).digs.length ≤ 1 := ⟨⟨rfl, digR_nil⟩, by decide⟩
theorem ofN1 : ofN 1 = ⟨false, [1]⟩ := by decide
theorem ofN0 : ofN 0 = ⟨false, []⟩ := by decide
theorem of1_ok : ZOk (ofN 1) ∧ (ofN 1).digs.length ≤ 1 := by
  rw [ofN1]
  refine ⟨⟨rfl, fun k hk => ?_⟩, by decide⟩
  obtain rfl : k = 0 := by simpa using hk
  decide

/-- A model's numbers are right, and of few digits. -/
def ZSm (x : ZInt) : Prop := ZOk x ∧ x.digs.length ≤ 3
def RowSm (r : TRow) : Prop := ZSm r.value ∧ ∀ x ∈ r.args, ZSm x
def TabSm (t : Table) : Prop := ZSm t.els ∧ ∀ r ∈ t.rows, RowSm r
theorem lookRows_sm {args : List ZInt} {els : ZInt} (he : ZSm els) : ∀ {rows : List TRow}, (∀ r ∈ rows, RowSm r) → ZSm (lookRows args els rows)
  | [], _ => he
  | r :: l, h => by
    rw [lookRows]
    split
    · exact (h r (List.mem_cons_self ..)).1
    · exact lookRows_sm he fun r hr => h r (List.mem_cons_of_mem _ hr)

/-- All of a list are right, and of at most n digits. -/
def AllSm (n : Nat) (xs : List ZInt) : Prop := ∀ x ∈ xs, ZOk x ∧ x.digs.length ≤ n
theorem AllSm.mono {n m : Nat} {xs : List ZInt} (h : AllSm n xs) (hm : n ≤ m) : AllSm m xs := fun x hx => ⟨(h x hx).1, Nat.le_trans (h x hx).2 hm⟩
theorem fold_add {op : ZInt → ZInt → ZInt} (hop : ∀ x y, DigR x.digs → DigR y.digs → ZOk (op x y)) (hlen : ∀ x y, (op x y).digs.length ≤ max x.digs.length y.digs.length + 1) {n : Nat} : ∀ {l : List ZInt} {x : ZInt} {k : Nat}, AllSm n l → ZOk x → x.digs.length ≤ n + k → n + k + l.length ≤ 100000000 →
    FoldOk op OkZ x l ∧ ZOk (l.foldl op x) ∧ (l.foldl op x).digs.length ≤ n + k + l.length
  | [], x, k, _, hx, hk, _ => ⟨trivial, hx, by simpa using hk⟩
  | y :: l, x, k, hl, hx, hk, hb => by
    obtain ⟨hy, hyl⟩ := hl y (List.mem_cons_self ..)
    rw [List.length_cons] at hb
    have h1 := hlen x y
    obtain ⟨a, b, c⟩ := fold_add hop hlen (l := l) (x := op x y) (k := k + 1) (fun z hz => hl z (List.mem_cons_of_mem _ hz)) (hop x y hx.2 hy.2) (by omega) (by omega)
    refine ⟨⟨⟨hx.1, hy.1, by omega, by omega⟩, a⟩, b, ?_⟩
    rw [List.length_cons, List.foldl_cons]
    omega
theorem fold_mul {n : Nat} : ∀ {l : List ZInt} {x : ZInt} {k : Nat}, AllSm n l → ZOk x → x.digs.length ≤ n * k → n * (k + l.length) ≤ 100000000 → 0 < k →
    FoldOk mulZ OkZ x l ∧ ZOk (l.foldl mulZ x) ∧ (l.foldl mulZ x).digs.length ≤ n * (k + l.length)
  | [], x, k, _, hx, hk, _, _ => ⟨trivial, hx, by simpa using hk⟩
  | y :: l, x, k, hl, hx, hk, hb, h0 => by
    obtain ⟨hy, hyl⟩ := hl y (List.mem_cons_self ..)
    rw [List.length_cons] at hb ⊢
    have h1 := mulZ_len (x := x) (y := y)
    have e1 : n * (k + 1) = n * k + n := Nat.mul_succ ..
    have e2 : n * (k + (l.length + 1)) = n * (k + 1 + l.length) := by congr 1; omega
    have e3 : n * k ≤ n * (k + (l.length + 1)) := Nat.mul_le_mul_left _ (by omega)
    have e4 : n * 1 ≤ n * (k + (l.length + 1)) := Nat.mul_le_mul_left _ (by omega)
    rw [Nat.mul_one] at e4
    obtain ⟨a, b, c⟩ := fold_mul (l := l) (x := mulZ x y) (k := k + 1) (fun z hz => hl z (List.mem_cons_of_mem _ hz)) (mulZ_ok hx.2 hy.2) (by omega) (by omega) (by omega)
    refine ⟨⟨⟨hx.1, hy.1, by omega, by omega⟩, a⟩, b, ?_⟩
    rw [List.foldl_cons]
    omega

theorem head_fold {op : ZInt → ZInt → ZInt} {xs : List ZInt} (h : 0 < xs.length) : ∃ x l, xs = x :: l ∧ foldZ op xs = l.foldl op x ∧ (FoldKids op xs ↔ FoldOk op OkZ x l) := by
  match xs, h with
  | x :: l, _ => exact ⟨x, l, rfl, rfl, Iff.rfl⟩
theorem allSm_right {n : Nat} {xs : List ZInt} (h : AllSm n xs) : AllRight xs := fun x hx => (h x hx).1.1
theorem atZ_sm {n : Nat} {xs : List ZInt} (h : AllSm n xs) {k : Nat} (hk : k < xs.length) : ZOk (atZ xs k) ∧ (atZ xs k).digs.length ≤ n := by
  obtain ⟨x, hx⟩ := at_some hk
  rw [atZ_eq hx]
  exact h x (List.mem_of_getElem? hx)
/-- A model of small tables. -/
def ModSm (m : Model) : Prop := ∀ t ∈ m.funs, TabSm t
theorem tab_sm {m : Model} (h : ModSm m) {k : Int} (h0 : 0 ≤ k) (h1 : k < m.funs.length) : TabSm (tabAt m k) := by
  obtain ⟨i, rfl⟩ : ∃ i : Nat, k = (i : Int) := ⟨k.toNat, (Int.toNat_of_nonneg h0).symm⟩
  obtain ⟨t, ht⟩ := at_some (show i < m.funs.length by omega)
  rw [tabAt_eq ht]
  exact h t (List.mem_of_getElem? ht)
theorem value_ok {funs : List Fun} {i : Nat} {ofs : List Int} {consts : List Bool} {t : Term} {kids : List ZInt} {m : Model} {n : Nat} (hok : TermOk funs i ofs consts t) (hl : kids.length = t.kids.length) (h12 : t.kids.length ≤ 12) (hnum : t.num.size ≤ 60) (hm : ModSm m) (hf : m.funs.length = funs.length) (hs : AllSm n kids) (h8 : 8 ≤ n) (hn : n * 12 ≤ 100000000) (hn2 : n + 12 ≤ 100000000) :
    ValOk t kids m ∧ ZOk (valueT t kids m) ∧ (valueT t kids m).digs.length ≤ (if t.op = 19 then n * t.kids.length else n + 11) := by
  rw [ValOk, valueT]
  by_cases e3 : t.op = 3
  · obtain ⟨a0, a1, _⟩ := hok.app e3
    rw [← hf] at a1
    have ht := tab_sm hm a0 a1
    have hz := lookRows_sm (args := kids) ht.1 ht.2
    rw [if_pos e3, if_pos e3, if_neg (show ¬ t.op = 19 by omega)]
    exact ⟨⟨a0, a1, fun r hr x hx => ((ht.2 r hr).2 x hx).1.1⟩, hz.1, by have := hz.2; unfold lookT; omega⟩
  rw [if_neg e3, if_neg e3]
  by_cases e4 : t.op = 4
  · have hno := (hok.num e4).1
    rw [if_pos e4, if_pos e4, if_neg (show ¬ t.op = 19 by omega)]
    have := parseZ_len (s := t.num)
    exact ⟨hno, parseZ_ok hno, by omega⟩
  rw [if_neg e4, if_neg e4]
  by_cases e10 : t.op = 10
  · have h3 := hok.three e10
    rw [if_pos e10, if_pos e10, if_neg (show ¬ t.op = 19 by omega)]
    have h1 := atZ_sm hs (k := 1) (by omega)
    have h2 := atZ_sm hs (k := 2) (by omega)
    refine ⟨by omega, ?_⟩
    split
    · exact ⟨h1.1, by omega⟩
    · exact ⟨h2.1, by omega⟩
  rw [if_neg e10, if_neg e10]
  by_cases e17 : t.op = 17
  · have h2 := hok.two (by omega) (by omega) e3 e4 (by omega) e10 (by omega)
    obtain ⟨x, l, rfl, hfold, hkids⟩ := head_fold (op := addZ) (show 0 < kids.length by omega)
    have hx := hs x (List.mem_cons_self ..)
    rw [List.length_cons] at hl
    obtain ⟨a, b, c⟩ := fold_add (op := addZ) (fun _ _ => addZ_ok) (fun _ _ => addZ_len) (n := n) (l := l) (x := x) (k := 0) (fun z hz => hs z (List.mem_cons_of_mem _ hz)) hx.1 hx.2 (by omega)
    rw [if_pos e17, if_pos e17, if_neg (show ¬ t.op = 19 by omega), hfold]
    exact ⟨hkids.2 a, b, by omega⟩
  rw [if_neg e17, if_neg e17]
  by_cases e19 : t.op = 19
  · have h2 := hok.two (by omega) (by omega) e3 e4 (by omega) e10 (by omega)
    obtain ⟨x, l, rfl, hfold, hkids⟩ := head_fold (op := mulZ) (show 0 < kids.length by omega)
    have hx := hs x (List.mem_cons_self ..)
    rw [List.length_cons] at hl
    have e1 : n * (1 + l.length) ≤ n * 12 := Nat.mul_le_mul_left _ (by omega)
    obtain ⟨a, b, c⟩ := fold_mul (n := n) (l := l) (x := x) (k := 1) (fun z hz => hs z (List.mem_cons_of_mem _ hz)) hx.1 (by omega) (by omega) (by omega)
    rw [if_pos e19, if_pos e19, if_pos e19, hfold, ← hl, Nat.add_comm l.length 1]
    exact ⟨hkids.2 a, b, c⟩
  rw [if_neg e19, if_neg e19, if_neg e19]
  by_cases e18 : t.op = 18
  · have h1 := hok.some e18
    rw [if_pos e18, if_pos e18]
    by_cases hl1 : kids.length = 1
    · rw [if_pos hl1, if_pos hl1]
      have h0 := atZ_sm hs (k := 0) (by omega)
      have := negZ_len (x := atZ kids 0)
      exact ⟨by omega, negZ_ok h0.1.2, by omega⟩
    · rw [if_neg hl1, if_neg hl1]
      obtain ⟨x, l, rfl, hfold, hkids⟩ := head_fold (op := subZ) (show 0 < kids.length by omega)
      have hx := hs x (List.mem_cons_self ..)
      rw [List.length_cons] at hl
      obtain ⟨a, b, c⟩ := fold_add (op := subZ) (fun _ _ => subZ_ok) (fun _ _ => subZ_len) (n := n) (l := l) (x := x) (k := 0) (fun z hz => hs z (List.mem_cons_of_mem _ hz)) hx.1 hx.2 (by omega)
      rw [hfold]
      exact ⟨hkids.2 a, b, by omega⟩
  rw [if_neg e18, if_neg e18]
  refine ⟨⟨fun h => ?_, by omega⟩, ?_⟩
  · rcases h with h | h | h | h
    · have := hok.one h; omega
    · have := hok.two (by omega) (by omega) e3 e4 (by omega) e10 e18; omega
    · have := hok.two (by omega) (by omega) e3 e4 (by omega) e10 e18; omega
    · have hop : t.op = 11 ∨ t.op = 13 ∨ t.op = 14 ∨ t.op = 15 ∨ t.op = 16 := by
        unfold ordOf at h
        by_cases a1 : t.op = 11
        · exact .inl a1
        · by_cases a2 : t.op = 13
          · exact .inr (.inl a2)
          · by_cases a3 : t.op = 14
            · exact .inr (.inr (.inl a3))
            · by_cases a4 : t.op = 15
              · exact .inr (.inr (.inr (.inl a4)))
              · by_cases a5 : t.op = 16
                · exact .inr (.inr (.inr (.inr a5)))
                · simp [a1, a2, a3, a4, a5] at h
      have := hok.two (by omega) (by omega) e3 e4 (by omega) e10 e18
      omega
  · split
    · exact ⟨of1_ok.1, by have := of1_ok.2; omega⟩
    · exact ⟨of0_ok.1, by have := of0_ok.2; omega⟩

/-! All terms of a script. -/
def kidsOf (vals : List ZInt) (t : Term) : List ZInt := t.kids.map (fun i => atZ vals i.toNat)
def valsTo (terms : List Term) (m : Model) : Nat → List ZInt
  | 0 => []
  | k + 1 => valsTo terms m k ++ (match terms[k]? with | some t => [valueT t (kidsOf (valsTo terms m k) t) m] | none => [])
theorem valsTo_succ {terms : List Term} {m : Model} {k : Nat} {t : Term} (h : terms[k]? = some t) : valsTo terms m (k + 1) = valsTo terms m k ++ [valueT t (kidsOf (valsTo terms m k) t) m] := by rw [valsTo, h]
theorem valsTo_len {terms : List Term} {m : Model} : ∀ {k : Nat}, k ≤ terms.length → (valsTo terms m k).length = k
  | 0, _ => rfl
  | k + 1, h => by
    obtain ⟨t, ht⟩ := at_some (show k < terms.length by omega)
    rw [valsTo_succ ht, List.length_append, valsTo_len (by omega)]
    rfl
def prodTo (terms : List Term) : Nat → Nat
  | 0 => 1
  | k + 1 => match terms[k]? with | some t => if t.op = 19 then prodTo terms k * t.kids.length else prodTo terms k | none => prodTo terms k
def mulTo (terms : List Term) : Nat → Nat
  | 0 => 0
  | k + 1 => match terms[k]? with | some t => if t.op = 19 then mulTo terms k + t.kids.length else mulTo terms k | none => mulTo terms k
theorem prodTo_succ {terms : List Term} {k : Nat} {t : Term} (h : terms[k]? = some t) : prodTo terms (k + 1) = if t.op = 19 then prodTo terms k * t.kids.length else prodTo terms k := by rw [prodTo, h]
theorem mulTo_succ {terms : List Term} {k : Nat} {t : Term} (h : terms[k]? = some t) : mulTo terms (k + 1) = if t.op = 19 then mulTo terms k + t.kids.length else mulTo terms k := by rw [mulTo, h]
theorem cube_le : ∀ n, n ≤ 12 → n * n * n ≤ 3 ^ n := by decide
theorem prodTo_cube {terms : List Term} (h : ∀ t ∈ terms, t.kids.length ≤ 12) : ∀ k, k ≤ terms.length → prodTo terms k * prodTo terms k * prodTo terms k ≤ 3 ^ mulTo terms k
  | 0, _ => by simp [prodTo, mulTo]
  | k + 1, hk => by
    obtain ⟨t, ht⟩ := at_some (show k < terms.length by omega)
    have ih := prodTo_cube h k (by omega)
    rw [prodTo_succ ht, mulTo_succ ht]
    split
    · have hc := cube_le t.kids.length (h t (List.mem_of_getElem? ht))
      rw [Nat.pow_add]
      generalize prodTo terms k = P at *
      generalize t.kids.length = n at *
      calc P * n * (P * n) * (P * n) = (P * P * P) * (n * n * n) := by
            simp only [Nat.mul_assoc, Nat.mul_left_comm, Nat.mul_comm]
        _ ≤ _ := Nat.mul_le_mul ih hc
    · exact ih
theorem mulTo_mono {terms : List Term} : ∀ {k n : Nat}, k ≤ n → mulTo terms k ≤ mulTo terms n := by
  intro k n h
  induction h with
  | refl => exact Nat.le_refl _
  | step h ih =>
    refine Nat.le_trans ih ?_
    rw [mulTo]
    split
    · split <;> omega
    · omega
theorem prodTo_le {terms : List Term} (h : ∀ t ∈ terms, t.kids.length ≤ 12) (hw : mulTo terms terms.length ≤ 20) {k : Nat} (hk : k ≤ terms.length) : prodTo terms k ≤ 1600 := by
  have h1 := prodTo_cube h k hk
  have h2 : 3 ^ mulTo terms k ≤ 3 ^ 20 := Nat.pow_le_pow_right (by omega) (Nat.le_trans (mulTo_mono hk) hw)
  rcases Nat.lt_or_ge (prodTo terms k) 1601 with h3 | h3
  · omega
  · have h4 : 1601 * 1601 * 1601 ≤ prodTo terms k * prodTo terms k * prodTo terms k := Nat.mul_le_mul (Nat.mul_le_mul h3 h3) h3
    have h5 : (1601 * 1601 * 1601 : Nat) ≤ 3 ^ 20 := Nat.le_trans h4 (Nat.le_trans h1 h2)
    exact absurd h5 (by decide)
theorem prodTo_pos {d : Dump} (hl : LoadOk d) : ∀ k, k ≤ d.terms.length → 0 < prodTo d.terms k
  | 0, _ => Nat.one_pos
  | k + 1, hk => by
    obtain ⟨t, ht⟩ := at_some (show k < d.terms.length by omega)
    have ih := prodTo_pos hl k (by omega)
    rw [prodTo_succ ht]
    split
    · rename_i e
      have := (hl.terms k t ht).1.two (by omega) (by omega) (by omega) (by omega) (by omega) (by omega) (by omega)
      exact Nat.mul_pos ih (by omega)
    · exact ih
def lenB (terms : List Term) (k : Nat) : Nat := (8 + 11 * k) * prodTo terms k
theorem kidsOf_len (vals : List ZInt) (t : Term) : (kidsOf vals t).length = t.kids.length := List.length_map ..
theorem kidsOf_sm {n k : Nat} {vals : List ZInt} {t : Term} (h : AllSm n vals) (hl : vals.length = k) (hk : ∀ j, j < t.kids.length → 0 ≤ rdI t.kids j ∧ rdI t.kids j < k) : AllSm n (kidsOf vals t) := by
  intro x hx
  obtain ⟨i, hi, rfl⟩ := List.mem_map.1 hx
  obtain ⟨j, hj, rfl⟩ := List.getElem_of_mem hi
  have := hk j hj
  rw [rdI_eq hj] at this
  exact atZ_sm h (by omega)
/-- Each term has a value as it must be. -/
theorem vals_ok {d : Dump} (hs : Small d) (hl : LoadOk d) (hw : mulTo d.terms d.terms.length ≤ 20) {m : Model} (hm : ModSm m) (hf : m.funs.length = d.funs.length) : ∀ k, k ≤ d.terms.length → AllSm (lenB d.terms k) (valsTo d.terms m k)
  | 0, _ => fun x hx => by cases hx
  | k + 1, hk => by
    obtain ⟨t, ht⟩ := at_some (show k < d.terms.length by omega)
    have ih := vals_ok hs hl hw hm hf k (by omega)
    have hok := (hl.terms k t ht).1
    obtain ⟨hk12, hnum⟩ := hs.te t (List.mem_of_getElem? ht)
    have hP := prodTo_le (fun t ht => (hs.te t ht).1) hw (show k ≤ d.terms.length by omega)
    have hP0 := prodTo_pos hl k (by omega)
    have hnt := hs.nt
    have hn8 : 8 ≤ lenB d.terms k := Nat.le_trans (by omega : 8 ≤ (8 + 11 * k) * 1) (Nat.mul_le_mul_left _ hP0)
    have hnb : lenB d.terms k ≤ 888 * 1600 := Nat.mul_le_mul (by omega) hP
    have hv := value_ok hok (kidsOf_len _ t) hk12 hnum hm hf (kidsOf_sm ih (valsTo_len (by omega)) hok.kids) hn8 (by omega) (by omega)
    have hstep : lenB d.terms k ≤ lenB d.terms (k + 1) ∧ (if t.op = 19 then lenB d.terms k * t.kids.length else lenB d.terms k + 11) ≤ lenB d.terms (k + 1) := by
      unfold lenB
      rw [prodTo_succ ht]
      split
      · rename_i e
        have h2 := hok.two (by omega) (by omega) (by omega) (by omega) (by omega) (by omega) (by omega)
        generalize prodTo d.terms k = P at *
        generalize t.kids.length = n at *
        have e1 : (8 + 11 * k) * P * n = (8 + 11 * k) * (P * n) := Nat.mul_assoc ..
        have e2 : P * 1 ≤ P * n := Nat.mul_le_mul_left _ (by omega)
        rw [Nat.mul_one] at e2
        exact ⟨Nat.mul_le_mul (by omega) e2, by rw [e1]; exact Nat.mul_le_mul (by omega) (Nat.le_refl _)⟩
      · generalize prodTo d.terms k = P at *
        have e1 : (8 + 11 * (k + 1)) * P = (8 + 11 * k) * P + 11 * P := by rw [← Nat.add_mul]; congr 1
        omega
    rw [valsTo_succ ht]
    intro x hx
    rcases List.mem_append.1 hx with hx | hx
    · exact ⟨(ih x hx).1, Nat.le_trans (ih x hx).2 hstep.1⟩
    · rw [List.mem_singleton.1 hx]
      exact ⟨hv.2.1, Nat.le_trans hv.2.2 hstep.2⟩
theorem lenB_le {d : Dump} (hs : Small d) (hw : mulTo d.terms d.terms.length ≤ 20) {k : Nat} (hk : k ≤ d.terms.length) : lenB d.terms k ≤ 888 * 1600 := by
  have hP := prodTo_le (fun t ht => (hs.te t ht).1) hw hk
  have hnt := hs.nt
  exact Nat.mul_le_mul (by omega) hP
theorem val_ok {d : Dump} (hs : Small d) (hl : LoadOk d) (hw : mulTo d.terms d.terms.length ≤ 20) {m : Model} (hm : ModSm m) (hf : m.funs.length = d.funs.length) {k : Nat} {t : Term} (ht : d.terms[k]? = some t) : ValOk t (kidsOf (valsTo d.terms m k) t) m := by
  have hkl := (List.getElem?_eq_some_iff.1 ht).1
  have ih := vals_ok hs hl hw hm hf k (by omega)
  have hok := (hl.terms k t ht).1
  obtain ⟨hk12, hnum⟩ := hs.te t (List.mem_of_getElem? ht)
  have hP0 := prodTo_pos hl k (by omega)
  have hn8 : 8 ≤ lenB d.terms k := Nat.le_trans (by omega : 8 ≤ (8 + 11 * k) * 1) (Nat.mul_le_mul_left _ hP0)
  have hnb := lenB_le hs hw (show k ≤ d.terms.length by omega)
  exact (value_ok hok (kidsOf_len _ t) hk12 hnum hm hf (kidsOf_sm ih (valsTo_len (by omega)) hok.kids) hn8 (by omega) (by omega)).1
end Go.Proofs.YtfpmapbimhdafaaGreatDoor

namespace Go.Proofs.YtfpmapbimhdafaaGreatDoor
open Go.RowKit
set_option linter.unusedVariables false
set_option linter.unusedSimpArgs false

/-- All that a model's values need. -/
structure EvOk (d : Dump) (m : Model) : Prop where
  small : Small d
  load : LoadOk d
  wild : mulTo d.terms d.terms.length ≤ 20
  mod : ModSm m
  right : modelB d m = true
theorem EvOk.funs {d : Dump} {m : Model} (h : EvOk d m) : m.funs.length = d.funs.length := by
  have := h.right
  rw [modelB, Bool.and_eq_true, Bool.and_eq_true, decide_eq_true_eq, decide_eq_true_eq] at this
  exact this.2.1
theorem Own.z_at {W : World} {base g n c : Nat} {e : TypeId} {O : Nat → Prop} {xs : List ZInt} (h : Own W base e kZ O (.slice (some ⟨g, 0, none⟩) n c) xs) {i : Nat} {x : ZInt} (hx : xs[i]? = some x) :
    ∃ A d, W.cell? ⟨g, i * 2, none⟩ = some (.bool x.neg) ∧ W.cell? ⟨g, i * 2 + 1, none⟩ = some (.slice A x.digs.length d) ∧ kZ.rep W (PlusV O (.slice (some ⟨g, 0, none⟩) n c)) x [.bool x.neg, .slice A x.digs.length d] := by
  obtain ⟨cs, hr, hc⟩ := h.at_ hx
  have hr' := hr
  obtain ⟨v, rfl, h1⟩ := kZ_iff.1 hr'
  obtain ⟨A, d, rfl, _⟩ := Kd.one_slice h1
  exact ⟨A, d, hc 0 _ rfl, hc 1 _ rfl, hr⟩
/-- Kids, of which the first j are told. -/
def kidsNow (ks : List ZInt) (j : Nat) : List ZInt := ks.take j ++ List.replicate (ks.length - j) ⟨false, []⟩
theorem kidsNow_set {ks : List ZInt} {j : Nat} {x : ZInt} (h : ks[j]? = some x) : (kidsNow ks j).set j x = kidsNow ks (j + 1) := by
  have hj := (List.getElem?_eq_some_iff.1 h).1
  have hl : (ks.take j).length = j := by rw [List.length_take]; omega
  rw [kidsNow, List.set_append_right _ _ (by omega), hl, Nat.sub_self, show ks.length - j = (ks.length - (j + 1)) + 1 by omega, List.replicate_succ, List.set_cons_zero, kidsNow, take_snoc' h]
  simp
theorem kidsNow_len {ks : List ZInt} {j : Nat} (h : j ≤ ks.length) : (kidsNow ks j).length = ks.length := by
  rw [kidsNow, List.length_append, List.length_take, List.length_replicate]
  omega
theorem kidsNow_all (ks : List ZInt) : kidsNow ks ks.length = ks := by simp [kidsNow]

section
variable {w : World} {O : Nat → Prop} {s : Nat}
set_option maxRecDepth 100000 in
set_option maxHeartbeats 1000000 in
theorem c_All_bad (d : Dump) (h : Scr w O s d) (hs : Small d) (hl : LoadOk d) (m : Model) (vm : Value) (hm : kModel.agg w O m vm) (hb : modelB d m = false) :
    Calls Tryz.prog 14 #[ptr s, vm] w fun e w' => e = .returned (.tuple #[.slice none 0 0, .int .i64 1]) ∧ Ext NoB w w' := by
  have hm0 := hm
  obtain ⟨A1, c1, A2, c2, rfl, _, _⟩ := model_open hm
  have HM := Lib.hid hm0
  have HSC := Lib.hid h
  have HS := Lib.hid hs
  have HL := Lib.hid hl
  have HB := Lib.hid hb
  clear h hs hl hm hm0 hb
  unfold ptr
  go_enter Tryz.func14, Tryz.ntmps14
  go_wp2_with fail
  have hE1 : Ext NoB w (w.alloc (.cells #[.slice A1 m.sizes.length c1, .slice A2 m.funs.length c2] 31)) := (Ext.refl _ _).alloc _
  refine (c_evRight d (HSC.out.ext hE1) HS.out HL.out m _ (kModel.aggExt HM.out hE1.no)).mono ?_
  rintro e w2 ⟨rfl, he⟩
  rw [HB.out]
  have HE2 := Lib.hid (hE1.trans he)
  clear hE1 he
  go_wp2_with fail
  go_ret2
  exact ⟨rfl, HE2.out⟩

set_option maxRecDepth 100000 in
set_option maxHeartbeats 8000000 in
theorem c_All (d : Dump) (h : Scr w O s d) (m : Model) (vm : Value) (hm : kModel.agg w O m vm) (hok : EvOk d m) :
    Calls Tryz.prog 14 #[ptr s, vm] w fun e w' => ∃ v, e = .returned (.tuple #[v, .int .i64 0]) ∧ kZs.one w' O (valsTo d.terms m d.terms.length) v ∧ Ext NoB w w' := by
  have hm0 := hm
  obtain ⟨A1, c1, A2, c2, rfl, _, _⟩ := model_open hm
  have HM := Lib.hid hm0
  have HSC := Lib.hid h
  have HOK := Lib.hid hok
  have hnt := hok.small.nt
  have h0 := h
  obtain ⟨p, A, vc, s0, s1, _, hA⟩ := h0
  have HA := Lib.hid hA
  have HOO := Lib.hid hA.old
  have ls := cell_lt s0
  have S0' := Lib.hid s0
  clear h hm hm0 hok hA s1 s0
  unfold ptr at *
  go_enter Tryz.func14, Tryz.ntmps14
  go_wp2_with fail
  have hE1 : Ext NoB w (w.alloc (.cells #[.slice A1 m.sizes.length c1, .slice A2 m.funs.length c2] 31)) := (Ext.refl _ _).alloc _
  refine (c_evRight d (HSC.out.ext hE1) HOK.out.small HOK.out.load m _ (kModel.aggExt HM.out hE1.no)).mono ?_
  rintro e w2 ⟨rfl, he⟩
  rw [HOK.out.right]
  have b0 : w2.cell? ⟨w.heap.size, 0, none⟩ = some (.slice A1 m.sizes.length c1) := he.cell (by go_simp) (fun h => h)
  have b1 : w2.cell? ⟨w.heap.size, 1, none⟩ = some (.slice A2 m.funs.length c2) := he.cell (by go_simp) (fun h => h)
  have HE2 := Lib.hid (hE1.trans he)
  clear hE1 he
  go_wp2_with fail
  refine (c_orders w2 O (HOO.out.ext HE2.out)).mono ?_
  rintro e w3 ⟨vh, rfl, hh, he⟩
  replace b0 := he.cell b0 (fun h => h)
  replace b1 := he.cell b1 (fun h => h)
  have HE3 := Lib.hid (HE2.out.trans he)
  have HHow := Lib.hid hh
  have s0 := HE3.out.cell S0'.out (fun h => h)
  clear hh he HE2
  go_wp2_with fail
  refine (c_ArLen (HA.out.ext HE3.out)).mono ?_
  rintro e w4 ⟨rfl, he⟩
  have HB4 : Hid (w4.cell? ⟨w.heap.size, 0, none⟩ = some (.slice A1 m.sizes.length c1) ∧ w4.cell? ⟨w.heap.size, 1, none⟩ = some (.slice A2 m.funs.length c2)) := Lib.hid ⟨he.cell b0 (fun h => h), he.cell b1 (fun h => h)⟩
  have HHow4 := Lib.hid (HHow.out.ext he.no)
  have HE4 := Lib.hid (HE3.out.trans he)
  have lb := Nat.lt_of_lt_of_le (cell_lt b0) he.size
  clear he b0 b1 s0 HHow HE3
  have hlen4 : (StOf d).terms.length = d.terms.length := rfl
  rw [hlen4]
  clear hlen4
  go_wp2_with fail
  go_loopw [7, 24] (fun va i wr => ∃ k : Nat, k ≤ d.terms.length ∧ i = .int .i64 k ∧ Hid (Ext NoB w4 wr ∧ Own wr w4.heap.size 50 kZ O va (valsTo d.terms m k))) (fun _ i _ => d.terms.length - (intOf i).toNat)
  case atStart => exact ⟨0, by omega, rfl, Lib.hid ⟨Ext.refl _ _, Own.nil _ _ _ _⟩⟩
  case round =>
    obtain ⟨k, hk, rfl, HR⟩ := hrel
    obtain ⟨Va, ca, hva, _, _⟩ := HR.out.2.shape
    have hvl : (valsTo d.terms m k).length = k := valsTo_len hk
    rw [hvl] at hva
    subst hva
    have HVL := Lib.hid hvl
    clear hvl
    have HEr := Lib.hid (HE4.out.trans HR.out.1)
    have s0 := HEr.out.cell S0'.out (fun h => h)
    have HO2w : Hid (∀ b, b < w4.heap.size → PlusV O (.slice Va k ca) b → O b) := Lib.hid (fun b hb h' => h'.elim id (fun e => absurd (HR.out.2.base e).1 (by omega)))
    have HO2 : Hid (OldO (PlusV O (.slice Va k ca)) wr) := Lib.hid (by
      rintro b (hb | hb)
      · exact Nat.lt_of_lt_of_le (HOO.out b hb) HEr.out.size
      · exact (HR.out.2.base hb).2)
    have HAr : Hid (Arena wr (PlusV O (.slice Va k ca)) p A (StOf d)) := Lib.hid (HA.out.move HEr.out (fun _ _ h => h.elim) (fun b hb h' => HO2w.out b (Nat.lt_of_lt_of_le hb HE4.out.size) h') (fun b hb => .inl (HA.out.mo b hb)) HO2.out)
    by_cases hlt : k < d.terms.length
    · obtain ⟨t, ht⟩ := at_some hlt
      have hkl := (HOK.out.small.te t (List.mem_of_getElem? ht)).1
      have htok := (HOK.out.load.terms k t ht).1
      have hvok := val_ok HOK.out.small HOK.out.load HOK.out.wild HOK.out.mod HOK.out.funs ht
      have HT := Lib.hid ht
      have HTOK := Lib.hid htok
      have HVOK := Lib.hid hvok
      clear ht htok hvok
      go_wp2_with fail
      refine (c_At HAr.out k t HT.out (by omega)).mono ?_
      rintro e w5 ⟨vt, rfl, hvt, he⟩
      obtain ⟨B, bc, rfl, hkids, tw0, tw1, tw3⟩ := term_open hvt
      have HVT := Lib.hid hvt
      have HKI := Lib.hid hkids
      have HE5 := Lib.hid he
      clear hvt hkids he s0
      have HB6 : Hid (w5.alloc (.cells #[.int .i64 t.op, .int .i64 t.fn, .slice B t.kids.length bc, .string t.num] 63) |> fun W => W.cell? ⟨w5.heap.size, 0, none⟩ = some (.int .i64 t.op) ∧ W.cell? ⟨w5.heap.size, 1, none⟩ = some (.int .i64 t.fn) ∧ W.cell? ⟨w5.heap.size, 2, none⟩ = some (.slice B t.kids.length bc) ∧ W.cell? ⟨w5.heap.size, 3, none⟩ = some (.string t.num)) := Lib.hid ⟨by go_simp, by go_simp, by go_simp, by go_simp⟩
      have HE6 : Hid (Ext NoB w5 (w5.alloc (.cells #[.int .i64 t.op, .int .i64 t.fn, .slice B t.kids.length bc, .string t.num] 63))) := Lib.hid ((Ext.refl _ _).alloc _)
      have L6 : Hid (w5.heap.size < (w5.alloc (.cells #[.int .i64 t.op, .int .i64 t.fn, .slice B t.kids.length bc, .string t.num] 63)).heap.size) := Lib.hid (by simp)
      go_wp2_with (at_make; (generalize w5.alloc (.cells #[.int .i64 t.op, .int .i64 t.fn, .slice B t.kids.length bc, .string t.num] 63) = w6 at *); refine wpl_makeN kZ rfl (.tmp 38) (.tmp 38) 38 rfl w6.heap.size 50 _ 32 Tryz.underlying38 info_Z rfl (PlusV O (.slice Va k ca)) .i64 .i64 (t.kids.length : Int) (t.kids.length : Int) t.kids.length rfl rfl rfl rfl (by omega) (by omega) (Nat.le_refl _) ⟨false, []⟩ (fun _ _ => kZ_iff.2 ⟨_, rfl, Kd.nil_mk⟩) ?_; intro v9 w9 hv9 hO9 hE9; subst hv9; (have HO9 := Lib.hid hO9); (have HE9 := Lib.hid hE9); (have y2 := hE9.cell HB6.out.2.2.1 (fun h => h)); clear hO9 hE9)
      have HE6r : Hid (Ext NoB wr w6) := Lib.hid (HE5.out.trans HE6.out)
      have hz6 : wr.heap.size ≤ w6.heap.size := HE6r.out.size
      have HKL : Hid ((kidsOf (valsTo d.terms m k) t).length = t.kids.length) := Lib.hid (kidsOf_len _ _)
      have HO9' : Hid (Own w9 w6.heap.size 50 kZ (PlusV O (.slice Va k ca)) (.slice (some ⟨w6.heap.size, 0, none⟩) t.kids.length t.kids.length) (kidsNow (kidsOf (valsTo d.terms m k) t) 0)) := Lib.hid (by have := HO9.out; rw [kidsNow, HKL.out]; exact this)
      clear y2
      go_loopw [43] (fun i wq => ∃ j : Nat, j ≤ t.kids.length ∧ i = .int .i64 j ∧ Hid (Ext NoB w6 wq ∧ Own wq w6.heap.size 50 kZ (PlusV O (.slice Va k ca)) (.slice (some ⟨w6.heap.size, 0, none⟩) t.kids.length t.kids.length) (kidsNow (kidsOf (valsTo d.terms m k) t) j))) (fun i _ => t.kids.length - (intOf i).toNat)
      case atStart => exact ⟨0, by omega, rfl, Lib.hid ⟨HE9.out, HO9'.out⟩⟩
      case round =>
        obtain ⟨j, hj, rfl, HQ⟩ := hrel
        by_cases hja : j < t.kids.length
        · have hkb := kInts.oneExt HKI.out ((HE6.out.trans HQ.out.1).no)
          obtain ⟨_, _, hv, _, _, hr⟩ := Kd.one_slice hkb
          injection hv with hv1 hv2 hv3
          subst hv1
          clear hv2 hv3
          obtain ⟨kb, ko, hB, _, ki, _⟩ := ints_at hr hja
          subst hB
          obtain ⟨q0, q1⟩ := HTOK.out.kids j hja
          have hrd : kidsOf (valsTo d.terms m k) t |>.getD j ⟨false, []⟩ |> (· = atZ (valsTo d.terms m k) (rdI t.kids j).toNat) := by
            show (kidsOf (valsTo d.terms m k) t).getD j ⟨false, []⟩ = _
            rw [kidsOf, List.getD_eq_getElem?_getD, List.getElem?_map, List.getElem?_eq_getElem hja, rdI_eq hja]
            rfl
          obtain ⟨q, hq⟩ : ∃ q : Nat, rdI t.kids j = (q : Int) := ⟨(rdI t.kids j).toNat, (Int.toNat_of_nonneg q0).symm⟩
          rw [hq] at ki q1 hrd
          rw [Int.toNat_natCast] at hrd
          have hqk : q < k := by omega
          obtain ⟨z, hz⟩ := at_some (show q < (valsTo d.terms m k).length by rw [HVL.out]; exact hqk)
          rw [atZ_eq hz] at hrd
          obtain ⟨ga, ca', hga⟩ := HR.out.2.form (by rw [HVL.out]; omega)
          injection hga with hg1 hg2 hg3
          clear hg2
          subst hg1
          clear hg3
          obtain ⟨Az, az, z0, z1, hzr⟩ := HR.out.2.z_at hz
          replace z0 := (HE6r.out.trans HQ.out.1).cell z0 (fun h => h)
          replace z1 := (HE6r.out.trans HQ.out.1).cell z1 (fun h => h)
          have hzr' := kZ.move (O' := PlusV (PlusV O (.slice (some ⟨ga, 0, none⟩) k ca)) (.slice (some ⟨w6.heap.size, 0, none⟩) t.kids.length t.kids.length)) hzr ((HE6r.out.trans HQ.out.1).no) (fun b hb h' => h'.elim id (fun e => by
            have e2 : some w6.heap.size = some b := e
            injection e2 with e2
            omega))
          have hsome : (kidsOf (valsTo d.terms m k) t)[j]? = some z := by
            obtain ⟨y, hy⟩ := at_some (show j < (kidsOf (valsTo d.terms m k) t).length by rw [HKL.out]; exact hja)
            rw [hy]
            have h2 : (kidsOf (valsTo d.terms m k) t).getD j ⟨false, []⟩ = z := hrd
            rw [List.getD_eq_getElem?_getD, hy] at h2
            exact congrArg some h2
          have hnl : (kidsNow (kidsOf (valsTo d.terms m k) t) j).length = t.kids.length := (kidsNow_len (by rw [HKL.out]; omega)).trans HKL.out
          obtain ⟨y, hy⟩ := at_some (show j < (kidsNow (kidsOf (valsTo d.terms m k) t) j).length by omega)
          obtain ⟨Ay, ay, y0, y1, _⟩ := HQ.out.2.z_at hy
          have f0 := HQ.out.2.frozenAt (j * 2)
          have f1 := HQ.out.2.frozenAt (j * 2 + 1)
          have HSET := Lib.hid (HQ.out.2.set2 (j := j) (by omega) hzr')
          have HKS := Lib.hid (kidsNow_set hsome)
          have lk := cell_lt ki
          have lz := cell_lt z0
          have ly := cell_lt y0
          have jb0 : (0 : Int) ≤ (q : Int) := by omega
          have jb1 : (q : Int) < (k : Int) := by omega
          clear hkb hr hrd hq hz hzr hzr' hsome hnl hy q0 q1
          go_wp2_with fail
          exact ⟨⟨j + 1, by omega, by go_num, Lib.hid ⟨(HQ.out.1.setNew (Nat.le_refl _) _).setNew (Nat.le_refl _) _, by rw [← HKS.out]; exact HSET.out.1⟩⟩, by simp [intOf]; omega⟩
        · obtain rfl : j = t.kids.length := by omega
          clear hja
          have hq := HQ.out.1
          have t0 := hq.cell HB6.out.1 (fun h => h)
          have t1 := hq.cell HB6.out.2.1 (fun h => h)
          have t2 := hq.cell HB6.out.2.2.1 (fun h => h)
          have t3 := hq.cell HB6.out.2.2.2 (fun h => h)
          have hw4 := HR.out.1.trans (HE6r.out.trans hq)
          have b0 := hw4.cell HB4.out.1 (fun h => h)
          have b1 := hw4.cell HB4.out.2 (fun h => h)
          have hHow := HHow4.out.turn (O' := PlusV O (.slice Va k ca)) hw4.no HO2w.out
          have hMod := kModel.aggKeep (O' := PlusV O (.slice Va k ca)) HM.out ((HE4.out.trans hw4).no) (fun b hb h' => HO2w.out b (Nat.lt_of_lt_of_le hb HE4.out.size) h')
          have hTerm := kTerm.aggExt HVT.out ((HE6.out.trans hq).no)
          have hOld : OldO (PlusV O (.slice Va k ca)) wr := HO2.out.ext (HE6r.out.trans hq)
          have hKids : kZs.one wr (PlusV O (.slice Va k ca)) (kidsOf (valsTo d.terms m k) t) (.slice (some ⟨w6.heap.size, 0, none⟩) t.kids.length t.kids.length) := by
            have h1 := HQ.out.2
            rw [← HKL.out, kidsNow_all, HKL.out] at h1
            exact h1.slice (pos := by decide) (fun b hb => Nat.lt_of_lt_of_le (HO2.out b hb) hz6)
          have hSm := vals_ok HOK.out.small HOK.out.load HOK.out.wild HOK.out.mod HOK.out.funs k hk
          have hRight : AllRight (kidsOf (valsTo d.terms m k) t) := allSm_right (kidsOf_sm hSm HVL.out HTOK.out.kids)
          have hlen : (valueT t (kidsOf (valsTo d.terms m k) t) m).digs.length ≤ 10000000000 := by
            have h1 := vals_ok HOK.out.small HOK.out.load HOK.out.wild HOK.out.mod HOK.out.funs (k + 1) (by omega)
            have h2 := (h1 (valueT t (kidsOf (valsTo d.terms m k) t) m) (by rw [valsTo_succ HT.out]; simp)).2
            have h3 := lenB_le HOK.out.small HOK.out.wild (show k + 1 ≤ d.terms.length by omega)
            omega
          have HHow5 := Lib.hid hHow
          have HMod5 := Lib.hid hMod
          have HTerm5 := Lib.hid hTerm
          have HOld5 := Lib.hid hOld
          have HKids5 := Lib.hid hKids
          have HRight5 := Lib.hid hRight
          have HVS : Hid (valsTo d.terms m (k + 1) = valsTo d.terms m k ++ [valueT t (kidsOf (valsTo d.terms m k) t) m]) := Lib.hid (valsTo_succ HT.out)
          have HW4 := Lib.hid hw4
          have HOw := Lib.hid (HR.out.2.ext (HE6r.out.trans hq))
          clear hq hw4 hHow hMod hTerm hOld hKids hSm hRight
          have lt0 := cell_lt t0
          have lb0 := cell_lt b0
          go_wp2_with fail
          refine (c_value t (kidsOf (valsTo d.terms m k) t) m _ _ _ _ _ _ HTerm5.out HKids5.out HMod5.out HHow5.out HOld5.out HRight5.out HVOK.out).mono ?_
          rintro e wv ⟨vv, rfl, hvv, hev⟩
          have HVV := Lib.hid hvv
          have HEV := Lib.hid hev
          clear hvv hev t0 t1 t2 t3 b0 b1
          generalize valueT t (kidsOf (valsTo d.terms m k) t) m = zz at *
          go_wp2_with fail
          refine (c_own vv zz wv _ HVV.out (HOld5.out.ext HEV.out) hlen).mono ?_
          rintro e wo ⟨vo, rfl, hvo, heo⟩
          obtain ⟨cso, rfl, hco⟩ := hvo
          have hco' := hco
          obtain ⟨v1, rfl, hv1⟩ := kZ_iff.1 hco'
          obtain ⟨Ao, ao, rfl, _⟩ := Kd.one_slice hv1
          have HCO := Lib.hid hco
          have HEO := Lib.hid (HEV.out.trans heo)
          clear hco hco' hv1 heo
          go_wp2_with (at_builtin; go_loud (refine wpl_append1H kZ (by decide) wo.heap.size (by rfl) rfl (.tmp 56) (.tmp 63) 38 rfl w4.heap.size 50 _ 32 Tryz.underlying38 info_Z rfl O (.slice Va k ca) rfl (valsTo d.terms m k) (HOw.out.ext HEO.out) rfl zz [_, _] HCO.out (fun b hb => Nat.lt_of_lt_of_le (HOld5.out b (.inl hb)) HEO.out.size) (by omega) (by rw [HVL.out]; omega) (Nat.le_trans HW4.out.size HEO.out.size) ?_); intro v2 w2' hO2 hE2 hat2; (have HO2' := Lib.hid hO2); (have HE2' := Lib.hid hE2); clear hO2 hE2 hat2)
          exact ⟨⟨k + 1, by omega, by go_num, Lib.hid ⟨(HW4.out.trans HEO.out).then HE2'.out (fun i hi e => absurd (HOw.out.base e).1 (by omega)), by rw [HVS.out]; exact HO2'.out⟩⟩, by simp [intOf]; omega⟩
    · obtain rfl : k = d.terms.length := by omega
      clear hlt s0
      go_wp2_with fail
      go_ret2
      refine ⟨_, rfl, ?_, HEr.out⟩
      have := HR.out.2.slice (pos := by decide) (fun b hb => Nat.lt_of_lt_of_le (HOO.out b hb) HE4.out.size)
      exact this
end
end Go.Proofs.YtfpmapbimhdafaaGreatDoor

namespace Go.Proofs.YtfpmapbimhdafaaGreatDoor
open Go.RowKit
set_option linter.unusedVariables false
set_option linter.unusedSimpArgs false

/-- All terms that are asserted are there. -/
theorem popTo_mem {L : Int} {l : List (Int × Int)} {x : Int × Int} (h : x ∈ popTo L l) : x ∈ l := by
  unfold popTo at h
  have := List.mem_reverse.1 h
  exact List.mem_reverse.1 ((List.dropWhile_suffix _).subset this)
theorem allTo_in {d : Dump} (hl : LoadOk d) : ∀ k, ∀ x ∈ allTo d.cmds k, 0 ≤ x.1 ∧ x.1 < d.terms.length ∧ rdI (ofsTo d.funs d.terms d.terms.length) x.1.toNat = 0
  | 0, x, h => by cases h
  | k + 1, x, h => by
    rw [allTo] at h
    cases hc : d.cmds[k]? with
    | none => rw [hc] at h; exact allTo_in hl k x h
    | some c =>
      rw [hc] at h
      simp only at h
      split at h
      · rename_i e4
        rcases List.mem_append.1 h with h | h
        · exact allTo_in hl k x h
        · rw [List.mem_singleton.1 h]
          exact (hl.cmds k c hc).2.2.2.2.1 e4
      · split at h
        · exact allTo_in hl k x (popTo_mem h)
        · exact allTo_in hl k x h
theorem outTo_in {d : Dump} (hl : LoadOk d) : ∀ k, ∀ l ∈ outTo d.cmds k, ∀ x ∈ l, 0 ≤ x ∧ x < d.terms.length ∧ rdI (ofsTo d.funs d.terms d.terms.length) x.toNat = 0
  | 0, l, h => by cases h
  | k + 1, l, h => by
    rw [outTo] at h
    cases hc : d.cmds[k]? with
    | none => rw [hc] at h; exact outTo_in hl k l h
    | some c =>
      rw [hc] at h
      simp only at h
      split at h
      · rcases List.mem_append.1 h with h | h
        · exact outTo_in hl k l h
        · rw [List.mem_singleton.1 h]
          intro x hx
          obtain ⟨y, hy, rfl⟩ := List.mem_map.1 hx
          exact allTo_in hl k y hy
      · exact outTo_in hl k l h
def trueOf (vals : List ZInt) (ts : List Int) : Bool := ts.all (fun t => decide (atZ vals t.toNat = ofN 1))
/-- The first j of a list's terms are that. -/
def EqTo (vals : List ZInt) (one : ZInt) (ts : List Int) (j : Nat) : Prop := ∀ (n : Nat) (x : Int), n < j → ts[n]? = some x → atZ vals x.toNat = one
theorem EqTo.succ {vals : List ZInt} {one : ZInt} {ts : List Int} {j : Nat} {x : Int} (h : EqTo vals one ts j) (hx : ts[j]? = some x) (he : atZ vals x.toNat = one) : EqTo vals one ts (j + 1) := by
  intro n y hn hy
  rcases Nat.lt_or_ge n j with h' | h'
  · exact h n y h' hy
  · obtain rfl : n = j := by omega
    rw [hx] at hy
    obtain rfl := Option.some.inj hy
    exact he
theorem EqTo.all {vals : List ZInt} {ts : List Int} (h : EqTo vals (ofN 1) ts ts.length) : trueOf vals ts = true := List.all_eq_true.2 fun x hx => by
  obtain ⟨n, hn⟩ := List.getElem?_of_mem hx
  exact decide_eq_true (h n x (List.getElem?_eq_some_iff.1 hn).1 hn)
theorem row_ints {w : World} {O : Nat → Prop} {b off : Nat} {xs : List (List Int)} (h : kInts.row w O b off xs) {i : Nat} {x : List Int} (hx : xs[i]? = some x) :
    ∃ A c, w.cell? ⟨b, off + i, none⟩ = some (.slice A x.length c) ∧ kInts.one w O x (.slice A x.length c) := by
  obtain ⟨cs, hrep, hc⟩ := h i x hx
  obtain ⟨v, rfl, h1⟩ := slice_cells.1 hrep
  have h2 := h1
  obtain ⟨A, c, rfl, _⟩ := Kd.one_slice h2
  have := hc 0 _ rfl
  have hs : kInts.size = 1 := rfl
  rw [hs, Nat.mul_one, Nat.add_zero] at this
  exact ⟨A, c, this, h1⟩

section
variable {w : World} {O : Nat → Prop} {s : Nat}
set_option maxRecDepth 100000 in
set_option maxHeartbeats 1000000 in
theorem c_True_bad (d : Dump) (h : Scr w O s d) (hs : Small d) (hl : LoadOk d) (m : Model) (vm : Value) (hm : kModel.agg w O m vm) (hb : modelB d m = false) (i : Int) :
    Calls Tryz.prog 16 #[ptr s, .int .i64 i, vm] w fun e w' => e = .returned (.tuple #[.bool false, .int .i64 1]) ∧ Ext NoB w w' := by
  have hm0 := hm
  obtain ⟨A1, c1, A2, c2, rfl, _, _⟩ := model_open hm
  have HM := Lib.hid hm0
  have HSC := Lib.hid h
  have HS := Lib.hid hs
  have HL := Lib.hid hl
  have HB := Lib.hid hb
  clear h hs hl hm hm0 hb
  unfold ptr
  go_enter Tryz.func16, Tryz.ntmps16
  go_wp2_with fail
  have hE1 : Ext NoB w (w.alloc (.cells #[.slice A1 m.sizes.length c1, .slice A2 m.funs.length c2] 31)) := (Ext.refl _ _).alloc _
  refine (c_All_bad d (HSC.out.ext hE1) HS.out HL.out m _ (kModel.aggExt HM.out hE1.no) HB.out).mono ?_
  rintro e w2 ⟨rfl, he⟩
  have HE2 := Lib.hid (hE1.trans he)
  clear hE1 he
  go_wp2_with fail
  go_ret2
  exact ⟨rfl, HE2.out⟩

set_option maxRecDepth 100000 in
set_option maxHeartbeats 2000000 in
theorem c_True_out (d : Dump) (h : Scr w O s d) (m : Model) (vm : Value) (hm : kModel.agg w O m vm) (hok : EvOk d m) (i : Int) (hi : i < 0 ∨ (assertedL d.cmds).length ≤ i) :
    Calls Tryz.prog 16 #[ptr s, .int .i64 i, vm] w fun e w' => e = .returned (.tuple #[.bool false, .int .i64 2]) ∧ Ext NoB w w' := by
  have hm0 := hm
  obtain ⟨A1, c1, A2, c2, rfl, _, _⟩ := model_open hm
  have HM := Lib.hid hm0
  have HSC := Lib.hid h
  have HOK := Lib.hid hok
  clear h hm hm0 hok
  unfold ptr
  go_enter Tryz.func16, Tryz.ntmps16
  go_wp2_with fail
  have hE1 : Ext NoB w (w.alloc (.cells #[.slice A1 m.sizes.length c1, .slice A2 m.funs.length c2] 31)) := (Ext.refl _ _).alloc _
  refine (c_All d (HSC.out.ext hE1) m _ (kModel.aggExt HM.out hE1.no) HOK.out).mono ?_
  rintro e w2 ⟨v2, rfl, _, he⟩
  have HE2 := Lib.hid (hE1.trans he)
  clear hE1 he
  go_wp2_with fail
  refine (c_Asserted d (HSC.out.ext HE2.out) HOK.out.small HOK.out.load).mono ?_
  rintro e w3 ⟨v3, rfl, hv3, he⟩
  obtain ⟨A3, c3, rfl, _, _, _⟩ := Kd.one_slice hv3
  have HE3 := Lib.hid (HE2.out.trans he)
  clear hv3 he HE2
  rcases hi with hi | hi
  · have q1 : decide (i < 0) = true := decide_eq_true hi
    go_wp2_with fail
    go_ret2
    exact ⟨rfl, HE3.out⟩
  · by_cases h0 : i < 0
    · have q1 : decide (i < 0) = true := decide_eq_true h0
      go_wp2_with fail
      go_ret2
      exact ⟨rfl, HE3.out⟩
    · have q1 : decide (i < 0) = false := decide_eq_false h0
      have q2 : decide (((assertedL d.cmds).length : Int) ≤ i) = true := decide_eq_true hi
      go_wp2_with fail
      go_ret2
      exact ⟨rfl, HE3.out⟩

set_option maxRecDepth 100000 in
set_option maxHeartbeats 4000000 in
theorem c_True (d : Dump) (h : Scr w O s d) (m : Model) (vm : Value) (hm : kModel.agg w O m vm) (hok : EvOk d m) (i : Nat) (ts : List Int) (hi : (assertedL d.cmds)[i]? = some ts) :
    Calls Tryz.prog 16 #[ptr s, .int .i64 (i : Int), vm] w fun e w' => e = .returned (.tuple #[.bool (trueOf (valsTo d.terms m d.terms.length) ts), .int .i64 0]) ∧ Ext NoB w w' := by
  have hm0 := hm
  obtain ⟨A1, c1, A2, c2, rfl, _, _⟩ := model_open hm
  have HM := Lib.hid hm0
  have HSC := Lib.hid h
  have HOK := Lib.hid hok
  have hil := (List.getElem?_eq_some_iff.1 hi).1
  have HI := Lib.hid hi
  have hold : OldO O w := by obtain ⟨p, A, vc, _, _, _, hA⟩ := h; exact hA.old
  have HOLD := Lib.hid hold
  have HIN : Hid (∀ x ∈ ts, 0 ≤ x ∧ x < d.terms.length ∧ rdI (ofsTo d.funs d.terms d.terms.length) x.toNat = 0) := Lib.hid (outTo_in hok.load _ ts (List.mem_of_getElem? hi))
  clear h hm hm0 hok hi hold
  unfold ptr
  have q1 : decide ((i : Int) < 0) = false := by rw [decide_eq_false_iff_not]; omega
  have q2 : decide (((assertedL d.cmds).length : Int) ≤ (i : Int)) = false := by rw [decide_eq_false_iff_not]; omega
  go_enter Tryz.func16, Tryz.ntmps16
  go_wp2_with fail
  have hE1 : Ext NoB w (w.alloc (.cells #[.slice A1 m.sizes.length c1, .slice A2 m.funs.length c2] 31)) := (Ext.refl _ _).alloc _
  refine (c_All d (HSC.out.ext hE1) m _ (kModel.aggExt HM.out hE1.no) HOK.out).mono ?_
  rintro e w2 ⟨v2, rfl, hv2, he⟩
  have HV2 := Lib.hid hv2
  obtain ⟨A4, c4, rfl, _, _, _⟩ := Kd.one_slice hv2
  have HE2 := Lib.hid (hE1.trans he)
  have hvl : (valsTo d.terms m d.terms.length).length = d.terms.length := valsTo_len (Nat.le_refl _)
  rw [hvl]
  have HVL := Lib.hid hvl
  clear hE1 he hv2 hvl
  go_wp2_with fail
  refine (c_Asserted d (HSC.out.ext HE2.out) HOK.out.small HOK.out.load).mono ?_
  rintro e w3 ⟨v3, rfl, hv3, he⟩
  have HE23 := Lib.hid he
  have HE3 := Lib.hid (HE2.out.trans he)
  obtain ⟨A3, c3, rfl, _, _, hr⟩ := Kd.one_slice hv3
  obtain ⟨ab, ao, hA, _, hrow⟩ := hr (ne_nil_of_lt hil)
  subst hA
  obtain ⟨At, ct, a0, hts⟩ := row_ints hrow HI.out
  have htsl : ts.length ≤ 9223372036854775807 := by
    obtain ⟨_, _, _, h1, h2, _⟩ := Kd.one_slice hts
    unfold maxLen at h2
    omega
  have HTS := Lib.hid hts
  have A0 := Lib.hid a0
  have HV3 := Lib.hid (kZs.oneExt HV2.out he.no)
  have hil' : (i : Int) < ((assertedL d.cmds).length : Int) := by omega
  clear hv3 he hr hrow hts a0 HE2
  go_wp2_with fail
  refine (c_Of 1 w3 O (HOLD.out.ext HE3.out) (by decide)).mono ?_
  rintro e w4 ⟨v4, rfl, hv4, he⟩
  obtain ⟨A5, c5, rfl⟩ := z_form hv4
  have HV4 := Lib.hid hv4
  have HE34 := Lib.hid he
  have a0 := he.cell A0.out (fun h => h)
  have la := cell_lt a0
  clear hv4 he
  have HONE : Hid (zRight (ofN 1) = true) := Lib.hid of1_ok.1.1
  generalize hone : ofN 1 = one at *
  have HONEQ := Lib.hid hone
  clear hone
  go_wp2_with fail
  have HE5 : Hid (Ext NoB w4 (w4.alloc (.cells #[.bool one.neg, .slice A5 one.digs.length c5] 50))) := Lib.hid ((Ext.refl _ _).alloc _)
  have HB5 : Hid ((w4.alloc (.cells #[.bool one.neg, .slice A5 one.digs.length c5] 50)).cell? ⟨w4.heap.size, 0, none⟩ = some (.bool one.neg) ∧ (w4.alloc (.cells #[.bool one.neg, .slice A5 one.digs.length c5] 50)).cell? ⟨w4.heap.size, 1, none⟩ = some (.slice A5 one.digs.length c5)) := Lib.hid ⟨by go_simp, by go_simp⟩
  generalize w4.alloc (.cells #[.bool one.neg, .slice A5 one.digs.length c5] 50) = w5 at *
  clear a0 la
  go_loopw [39] (fun i wr => ∃ j : Nat, j ≤ ts.length ∧ i = .int .i64 j ∧ Hid (Ext NoB w5 wr ∧ EqTo (valsTo d.terms m d.terms.length) one ts j)) (fun i _ => ts.length - (intOf i).toNat)
  case atStart => exact ⟨0, by omega, rfl, Lib.hid ⟨Ext.refl _ _, fun n x hn => by omega⟩⟩
  case round =>
    obtain ⟨j, hj, rfl, HR⟩ := hrel
    have HE4r := Lib.hid (HE34.out.trans (HE5.out.trans HR.out.1))
    by_cases hlt : j < ts.length
    · obtain ⟨x, hx⟩ := at_some hlt
      obtain ⟨h0, h1, _⟩ := HIN.out x (List.mem_of_getElem? hx)
      obtain ⟨tn, rfl⟩ : ∃ tn : Nat, x = (tn : Int) := ⟨x.toNat, (Int.toNat_of_nonneg h0).symm⟩
      have htn : tn < d.terms.length := by omega
      obtain ⟨_, _, hv, _, _, hr⟩ := Kd.one_slice (kInts.oneExt HTS.out HE4r.out.no)
      injection hv with hv1 hv2 hv3
      subst hv1
      clear hv2 hv3
      obtain ⟨tb, tof, hA, _, tc, _⟩ := ints_at hr hlt
      subst hA
      have hrd : rdI ts j = (tn : Int) := by
        rw [rdI_eq hlt]
        rw [List.getElem?_eq_getElem hlt] at hx
        exact Option.some.inj hx
      rw [hrd] at tc
      obtain ⟨z, hz⟩ := at_some (show tn < (valsTo d.terms m d.terms.length).length by rw [HVL.out]; exact htn)
      have hvs := kZs.oneExt HV3.out HE4r.out.no
      obtain ⟨_, _, hv, _, _, hr'⟩ := Kd.one_slice hvs
      injection hv with hv1 hv2 hv3
      subst hv1
      clear hv2 hv3
      obtain ⟨vb, vof, hA, _, hrow⟩ := hr' (ne_nil_of_lt (show tn < (valsTo d.terms m d.terms.length).length by rw [HVL.out]; exact htn))
      subst hA
      obtain ⟨Az, az, ⟨z0, z1⟩, hzd⟩ := row_z hrow hz
      have HZD := Lib.hid (zv_mk (x := z) hzd)
      have HZR : Hid (zRight z = true) := Lib.hid (vals_ok HOK.out.small HOK.out.load HOK.out.wild HOK.out.mod HOK.out.funs _ (Nat.le_refl _) z (List.mem_of_getElem? hz)).1.1
      have HAT : Hid (atZ (valsTo d.terms m d.terms.length) ((tn : Int)).toNat = z) := Lib.hid (by rw [Int.toNat_natCast, atZ_eq hz])
      have HX := Lib.hid hx
      have b0 := HR.out.1.cell HB5.out.1 (fun h => h)
      have b1 := HR.out.1.cell HB5.out.2 (fun h => h)
      have HST : Hid (wr.drew.cell? ⟨vb, vof + tn * 2, none⟩ = some (.bool z.neg) ∧ wr.drew.cell? ⟨vb, vof + tn * 2 + 1, none⟩ = some (.slice Az z.digs.length az) ∧ wr.drew.cell? ⟨w4.heap.size, 0, none⟩ = some (.bool one.neg) ∧ wr.drew.cell? ⟨w4.heap.size, 1, none⟩ = some (.slice A5 one.digs.length c5)) := Lib.hid ⟨z0, z1, b0, b1⟩
      have lt := cell_lt tc
      have p1 : decide ((tn : Int) < 0) = false := by rw [decide_eq_false_iff_not]; omega
      have p2 : decide ((d.terms.length : Int) ≤ (tn : Int)) = false := by rw [decide_eq_false_iff_not]; omega
      have p2' : decide (d.terms.length ≤ tn) = false := by rw [decide_eq_false_iff_not]; omega
      have p3 : (0 : Int) ≤ (tn : Int) := by omega
      have p4 : (tn : Int) < (d.terms.length : Int) := by omega
      clear hx hr hr' hrd hz hvs hrow hzd z0 z1 b0 b1 h0 h1
      go_wp2_with fail
      refine wpM_begin (fun W => W.cell? ⟨vb, vof + tn * 2, none⟩ = some (.bool z.neg) ∧ W.cell? ⟨vb, vof + tn * 2 + 1, none⟩ = some (.slice Az z.digs.length az) ∧ W.cell? ⟨w4.heap.size, 0, none⟩ = some (.bool one.neg) ∧ W.cell? ⟨w4.heap.size, 1, none⟩ = some (.slice A5 one.digs.length c5)) [] [0, 1, 2, 3, 4, 5, 6, 7, 8, 9, 10, 11, 12, 13, 14, 15, 16] (by kernel_rfl) (by kernel_rfl) (HST.out) (fun hS0 hA => ?_)
      refine wpM_free 0 rfl (by kernel_rfl) rfl (by intro w; go_simp; try rfl) ?_; (try simp only [Act.put, List.setIfInBounds_toArray, List.set_cons_zero, List.set_cons_succ])
      refine wpM_free 1 rfl (by kernel_rfl) rfl (by intro w; go_simp; try rfl) ?_; (try simp only [Act.put, List.setIfInBounds_toArray, List.set_cons_zero, List.set_cons_succ])
      refine wpM_free 2 rfl (by kernel_rfl) rfl (by intro w; go_simp; try rfl) ?_; (try simp only [Act.put, List.setIfInBounds_toArray, List.set_cons_zero, List.set_cons_succ])
      refine wpM_free 3 rfl (by kernel_rfl) (by go_simp) (by intro w; go_simp; try rfl) ?_; (try simp only [Act.put, List.setIfInBounds_toArray, List.set_cons_zero, List.set_cons_succ])
      refine wpM_free 4 rfl (by kernel_rfl) (by go_simp) (by intro w; go_simp; try rfl) ?_; (try simp only [Act.put, List.setIfInBounds_toArray, List.set_cons_zero, List.set_cons_succ])
      refine wpM_free 5 rfl (by kernel_rfl) (by go_simp) (by intro w; go_simp; try rfl) ?_; (try simp only [Act.put, List.setIfInBounds_toArray, List.set_cons_zero, List.set_cons_succ])
      refine wpM_free 6 rfl (by kernel_rfl) (by go_simp) (by intro w; go_simp; try rfl) ?_; (try simp only [Act.put, List.setIfInBounds_toArray, List.set_cons_zero, List.set_cons_succ])
      refine wpM_free 7 rfl (by kernel_rfl) rfl (by intro w; go_simp; try rfl) ?_; (try simp only [Act.put, List.setIfInBounds_toArray, List.set_cons_zero, List.set_cons_succ])
      refine wpM_free 8 rfl (by kernel_rfl) rfl (by intro w; go_simp; try rfl) ?_; (try simp only [Act.put, List.setIfInBounds_toArray, List.set_cons_zero, List.set_cons_succ])
      refine wpM_free 9 rfl (by kernel_rfl) (by go_simp) (by intro w; go_simp; try rfl) ?_; (try simp only [Act.put, List.setIfInBounds_toArray, List.set_cons_zero, List.set_cons_succ])
      refine wpM_free 10 rfl (by kernel_rfl) (by go_simp) (by intro w; go_simp; try rfl) ?_; (try simp only [Act.put, List.setIfInBounds_toArray, List.set_cons_zero, List.set_cons_succ])
      refine wpM_free 11 rfl (by kernel_rfl) (by go_simp) (by intro w; go_simp; try rfl) ?_; (try simp only [Act.put, List.setIfInBounds_toArray, List.set_cons_zero, List.set_cons_succ])
      refine wpM_take 12 hA hS0 rfl (by kernel_rfl) (by go_simp) (by intro w hs; (try dsimp only at hs); go_simp; try rfl) ?_; (try simp only [Act.put, List.setIfInBounds_toArray, List.set_cons_zero, List.set_cons_succ])
      refine wpM_take 13 hA hS0 rfl (by kernel_rfl) (by go_simp) (by intro w hs; (try dsimp only at hs); go_simp; try rfl) ?_; (try simp only [Act.put, List.setIfInBounds_toArray, List.set_cons_zero, List.set_cons_succ])
      refine wpM_only 14 rfl (by kernel_rfl) (fun K hK => ?_)
      go_simp
      refine (c_Cmp _ _ z one wr.drew O (kZ.aggExt HZD.out ((Ext.refl O wr).drew)) (kZ.aggExt HV4.out (((HE5.out.trans HR.out.1).no).drew)) HZR.out HONE.out).mono ?_
      rintro e w6 ⟨rfl, hq⟩
      generalize hcz : cmpZ z one = cz
      refine hK.out _ _ ?_ (fun hS1 => ?_)
      · exact ⟨hq.cell hS0.1 id, hq.cell hS0.2.1 id, hq.cell hS0.2.2.1 id, hq.cell hS0.2.2.2 id⟩
      clear hS0 hK K; (try simp only [Act.put, List.setIfInBounds_toArray, List.set_cons_zero, List.set_cons_succ])
      refine wpM_free 15 rfl (by kernel_rfl) (by go_simp) (by intro w; go_simp; try rfl) ?_; (try simp only [Act.put, List.setIfInBounds_toArray, List.set_cons_zero, List.set_cons_succ])
      refine wpM_free 16 rfl (by kernel_rfl) rfl (by intro w; go_simp; try rfl) ?_; (try simp only [Act.put, List.setIfInBounds_toArray, List.set_cons_zero, List.set_cons_succ])
      refine wpM_done (by kernel_rfl) ?_
      have HCZ := Lib.hid hcz
      have HE6 := Lib.hid ((Ext.refl NoB wr).drew.trans hq)
      clear hS1 hq hcz
      by_cases hc : cz = 0
      · have q3 : (cz != 0) = false := by rw [bne_eq_false_iff_eq]; exact hc
        have HEQ : Hid (z = one) := Lib.hid (cmpZ_zero.1 (HCZ.out.trans hc))
        clear hc
        go_wp2_with fail
        exact ⟨⟨j + 1, by omega, by go_num, Lib.hid ⟨HR.out.1.trans HE6.out, HR.out.2.succ HX.out (HAT.out.trans HEQ.out)⟩⟩, by simp [intOf]; omega⟩
      · have q3 : (cz != 0) = true := by rw [bne_iff_ne]; exact hc
        have HF : Hid (trueOf (valsTo d.terms m d.terms.length) ts = false) := Lib.hid (List.all_eq_false.2 ⟨(tn : Int), List.mem_of_getElem? HX.out, by
          rw [HAT.out, HONEQ.out]
          simpa using fun e => hc (HCZ.out.symm.trans (cmpZ_zero.2 e))⟩)
        clear hc
        go_wp2_with fail
        go_ret2
        exact ⟨by rw [HF.out]; rfl, HE3.out.trans (HE34.out.trans (HE5.out.trans (HR.out.1.trans HE6.out)))⟩
    · obtain rfl : j = ts.length := by omega
      have HF : Hid (trueOf (valsTo d.terms m d.terms.length) ts = true) := Lib.hid (EqTo.all (by rw [HONEQ.out]; exact HR.out.2))
      clear hlt
      go_wp2_with fail
      go_ret2
      exact ⟨by rw [HF.out]; rfl, HE3.out.trans (HE34.out.trans (HE5.out.trans HR.out.1))⟩
end
end Go.Proofs.YtfpmapbimhdafaaGreatDoor
