/- EvalElse in plain words: a row that gives what else is given, a thing more of a sort. No program in sight. The law: rows that give what else is given change nothing, nor does a thing more of a sort. -/
import Derived.Test.YtfpmapbimhdafaaGreatDoorPR
import Derived.Test.YtfpmapbimhdafaaGreatDoorPN
import Derived.Test.YtfpmapbimhdafaaGreatDoorPO
import Derived.Test.YtfpmapbimhdafaaGreatDoorPM
namespace Go.Proofs.YtfpmapbimhdafaaGreatDoor
open Go.RowKit
set_option linter.unusedVariables false
set_option linter.unusedSimpArgs false

/-- A size with a thing more, where there is room. -/
def upS (s : Int) : Int := if s < 1000 then s + 1 else s
/-- Sizes, those from the third to the k-th with a thing more. -/
def UpTo (xs ys : List Int) (k : Nat) : Prop := ys.length = xs.length ∧ ∀ j, j < xs.length → rdI ys j = if 2 ≤ j ∧ j < k then upS (rdI xs j) else rdI xs j
theorem UpTo.start (xs : List Int) : UpTo xs xs 2 := ⟨rfl, fun j hj => by rw [if_neg (by omega)]⟩
theorem UpTo.step {xs ys : List Int} {k : Nat} (h : UpTo xs ys k) (h2 : 2 ≤ k) (hk : k < xs.length) : UpTo xs (ys.set k (upS (rdI xs k))) (k + 1) := by
  refine ⟨by rw [List.length_set]; exact h.1, fun j hj => ?_⟩
  by_cases e : j = k
  · subst e
    rw [rdI_set_eq (by rw [h.1]; exact hk), if_pos ⟨h2, by omega⟩]
  · rw [rdI_set_ne (fun e2 => e e2.symm), h.2 j hj]
    by_cases c : 2 ≤ j ∧ j < k
    · rw [if_pos c, if_pos ⟨c.1, by omega⟩]
    · rw [if_neg c, if_neg (by omega)]
theorem UpTo.stay {xs ys : List Int} {k : Nat} (h : UpTo xs ys k) (hk : k < xs.length) (h1 : ¬ rdI xs k < 1000) : UpTo xs ys (k + 1) := by
  refine ⟨h.1, fun j hj => ?_⟩
  rw [h.2 j hj]
  by_cases e : j = k
  · subst e
    rw [if_neg (by omega)]
    split
    · rw [upS, if_neg h1]
    · rfl
  · by_cases c : 2 ≤ j ∧ j < k
    · rw [if_pos c, if_pos ⟨c.1, by omega⟩]
    · rw [if_neg c, if_neg (by omega)]
theorem UpTo.now {xs ys : List Int} {k : Nat} (h : UpTo xs ys k) (hk : k < xs.length) : rdI ys k = rdI xs k := by rw [h.2 k hk, if_neg (by omega)]
theorem rdI_out {xs : List Int} {j : Nat} (h : xs.length ≤ j) : rdI xs j = 0 := by simp [rdI, List.getD_eq_getElem?_getD, List.getElem?_eq_none h]
theorem UpTo.ge {xs ys : List Int} (h : UpTo xs ys xs.length) (j : Nat) : rdI xs j ≤ rdI ys j := by
  rcases Nat.lt_or_ge j xs.length with hj | hj
  · rw [h.2 j hj]
    split
    · rw [upS]; split <;> omega
    · exact Int.le_refl _
  · rw [rdI_out hj, rdI_out (by rw [h.1]; exact hj)]
    exact Int.le_refl _
theorem sizes_all {sizes : List Int} : ∀ {n : Nat}, (∀ k, 2 ≤ k → k < n → 1 ≤ rdI sizes k ∧ rdI sizes k ≤ 1000) → sizesTo sizes n = true
  | 0, _ => rfl
  | n + 1, h => by
    rw [sizesTo, sizes_all (fun k h2 hk => h k h2 (by omega)), Bool.true_and, sizeOkB]
    rcases Nat.lt_or_ge n 2 with h2 | h2
    · rw [decide_eq_true h2]; rfl
    · obtain ⟨a, b⟩ := h n h2 (by omega)
      rw [decide_eq_true a, decide_eq_true b]; simp
theorem UpTo.sizes {xs ys : List Int} (h : UpTo xs ys xs.length) (hs : sizesTo xs xs.length = true) : sizesTo ys ys.length = true := by
  refine sizes_all fun k h2 hk => ?_
  rw [h.1] at hk
  obtain ⟨a, b⟩ := sizes_at hs h2 hk
  rw [h.2 k hk, if_pos ⟨h2, hk⟩, upS]
  split <;> omega
theorem thing_up {x : ZInt} {s : Nat} {xs ys : List Int} (h : ∀ j, rdI xs j ≤ rdI ys j) (ht : thingB x s xs = true) : thingB x s ys = true := by
  rw [thingB, Bool.and_eq_true, Bool.or_eq_true, Bool.and_eq_true, Bool.and_eq_true, decide_eq_true_eq, decide_eq_true_eq] at ht ⊢
  refine ⟨ht.1, ht.2.imp id fun ⟨⟨a, b⟩, c⟩ => ⟨⟨a, b⟩, ?_⟩⟩
  have := h s
  rw [sizeOfSort] at c ⊢
  split
  · rw [if_pos ‹_›] at c; exact c
  · rw [if_neg ‹_›] at c; omega
theorem args_up {sorts : List Int} {args : List ZInt} {xs ys : List Int} (h : ∀ j, rdI xs j ≤ rdI ys j) : ∀ {n : Nat}, argsTo sorts args xs n = true → argsTo sorts args ys n = true
  | 0, _ => rfl
  | n + 1, ht => by
    rw [argsTo, Bool.and_eq_true] at ht ⊢
    exact ⟨args_up h ht.1, thing_up h ht.2⟩
theorem fits_up {f : Fun} {t : Table} {xs ys : List Int} (h : ∀ j, rdI xs j ≤ rdI ys j) (ht : fitsB f t xs = true) : fitsB f t ys = true := by
  obtain ⟨a, b⟩ := fitsB_iff.1 ht
  refine fitsB_iff.2 ⟨fun r hr => ?_, thing_up h b⟩
  obtain ⟨c1, c2, c3⟩ := rowB_iff.1 (a r hr)
  exact rowB_iff.2 ⟨c1, thing_up h c2, args_up h c3⟩

/-- The arguments of the row that is added. -/
def elseZ (a : Int) : ZInt := if a = 1 then ofN 77 else ⟨false, []⟩
def elseArgs (f : Fun) : List ZInt := f.args.map elseZ
theorem of77 : ofN 77 = ⟨false, [77]⟩ := by decide
theorem elseZ_sm (a : Int) : ZSm (elseZ a) := by
  rw [elseZ]
  split
  · rw [of77]
    refine ⟨⟨rfl, fun k hk => ?_⟩, by decide⟩
    obtain rfl : k = 0 := by simpa using hk
    decide
  · exact ⟨⟨rfl, digR_nil⟩, by decide⟩
theorem elseArgs_len (f : Fun) : (elseArgs f).length = f.args.length := List.length_map ..
theorem elseArgs_at {f : Fun} {j : Nat} (hj : j < f.args.length) : (elseArgs f)[j]? = some (elseZ (rdI f.args j)) := by
  rw [elseArgs, List.getElem?_map, List.getElem?_eq_getElem hj, rdI_eq hj]; rfl
theorem elseArgs_ok {f : Fun} {sizes : List Int} (ha : ArgsOk sizes.length f.args) (hs : sizesTo sizes sizes.length = true) : ∀ {n : Nat}, n ≤ f.args.length → argsTo f.args (elseArgs f) sizes n = true
  | 0, _ => rfl
  | n + 1, hn => by
    rw [argsTo, elseArgs_ok ha hs (by omega), Bool.true_and, atZ_eq (elseArgs_at (show n < f.args.length by omega))]
    obtain ⟨h0, h1⟩ := ha n (by omega)
    obtain ⟨s, hsn⟩ : ∃ s : Nat, rdI f.args n = (s : Int) := ⟨(rdI f.args n).toNat, by omega⟩
    rw [hsn, Int.toNat_natCast, elseZ]
    split
    · rename_i e
      obtain rfl : s = 1 := by omega
      rw [thingB, show zRight (ofN 77) = true by rw [of77]; rfl]
      rfl
    · rename_i e
      rw [thingB, show zRight (⟨false, []⟩ : ZInt) = true by rfl, show smallZ (⟨false, []⟩ : ZInt) = some 0 by decide]
      have hpos : 0 < sizeOfSort s sizes := by
        rw [sizeOfSort]
        split
        · decide
        · have := (sizes_at hs (show 2 ≤ s by omega) (show s < sizes.length by omega)).1
          omega
      simp only [Option.isSome_some, Option.getD_some, Bool.true_and]
      rw [decide_eq_true hpos]
      simp
/-- A table with the row ahead. -/
def elseTab (f : Fun) (t : Table) : Table := ⟨[⟨elseArgs f, t.els⟩] ++ t.rows, t.els⟩
/-- No row bears the arguments. -/
def NoRow (f : Fun) (t : Table) : Prop := ∀ r ∈ t.rows, r.args ≠ elseArgs f
theorem elseTab_look {f : Fun} {t : Table} (h : NoRow f t) (kids : List ZInt) : lookT t kids = lookT (elseTab f t) kids := by
  rw [lookT, lookT, elseTab]
  show _ = lookRows kids t.els (⟨elseArgs f, t.els⟩ :: t.rows)
  rw [lookRows]
  split
  · rename_i e
    exact lookRows_none fun r hr hk => absurd (hk.trans e.symm) (h r hr)
  · rfl
/-- The model that is made: other sizes, maybe a row more. -/
theorem else_ok {d : Dump} {m : Model} {k : Nat} {t t' : Table} {f : Fun} {ys : List Int} (hk : m.funs[k]? = some t) (hf : d.funs[k]? = some f) (h : EvOk d m) (hu : UpTo m.sizes ys m.sizes.length) (ht : t' = t ∨ (t' = elseTab f t ∧ NoRow f t)) :
    EvOk d ⟨ys, m.funs.set k t'⟩ ∧ ∀ n, valsTo d.terms m n = valsTo d.terms ⟨ys, m.funs.set k t'⟩ n := by
  obtain ⟨h1, h2, h3, h4⟩ := modelB_iff.1 h.right
  have hkl := (List.getElem?_eq_some_iff.1 hk).1
  have htab : ∀ i : Int, tabAt ⟨ys, m.funs.set k t'⟩ i = tabAt (setFun m k t') i := fun i => rfl
  have hge := hu.ge
  have hfit : fitsB f t m.sizes = true := by
    have := funs_at h4 (show k < d.funs.length by omega)
    rwa [funB, tabAt_eq hk, funAt_eq hf] at this
  have hsm := h.mod t (List.mem_of_getElem? hk)
  refine ⟨⟨h.small, h.load, h.wild, ?_, ?_⟩, fun n => ?_⟩
  · intro x hx
    rcases List.mem_or_eq_of_mem_set hx with hx | rfl
    · exact h.mod x hx
    · rcases ht with rfl | ⟨rfl, _⟩
      · exact hsm
      · refine ⟨hsm.1, fun r hr => ?_⟩
        rcases List.mem_append.1 hr with hr | hr
        · rw [List.mem_singleton.1 hr]
          refine ⟨hsm.1, fun x hx => ?_⟩
          obtain ⟨a, _, rfl⟩ := List.mem_map.1 hx
          exact elseZ_sm a
        · exact hsm.2 r hr
  · refine modelB_iff.2 ⟨by rw [← h1]; exact hu.1, by simpa using h2, hu.sizes h3, funsTo_all fun j hj => ?_⟩
    have hfj := funs_at h4 hj
    rw [funB] at hfj ⊢
    rw [htab, tabAt_set hkl, Int.toNat_natCast]
    split
    · subst j
      rw [funAt_eq hf]
      have hup := fits_up hge hfit
      rcases ht with rfl | ⟨rfl, _⟩
      · exact hup
      · obtain ⟨a, b⟩ := fitsB_iff.1 hup
        refine fitsB_iff.2 ⟨fun r hr => ?_, b⟩
        rcases List.mem_append.1 hr with hr | hr
        · rw [List.mem_singleton.1 hr]
          have ha := (h.load.funs f (List.mem_of_getElem? hf)).1
          refine rowB_iff.2 ⟨elseArgs_len f, b, ?_⟩
          rw [elseArgs_len]
          refine elseArgs_ok ?_ (hu.sizes h3) (Nat.le_refl _)
          rw [hu.1, h1]
          exact ha
        · exact a r hr
    · exact fits_up hge hfj
  · refine valsTo_eq (fun i kids => ?_) n
    rw [htab]
    rcases ht with rfl | ⟨rfl, hno⟩
    · exact modEq_set hkl (fun kids => by rw [tabAt_eq hk]) i kids
    · exact modEq_set hkl (fun kids => by rw [tabAt_eq hk]; exact elseTab_look hno kids) i kids

/-- Of two rows of numbers the first j are the same. -/
def eqTo (xs ys : List ZInt) : Nat → Bool
  | 0 => true
  | j + 1 => eqTo xs ys j && decide (atZ xs j = atZ ys j)
theorem eqTo_at {xs ys : List ZInt} : ∀ {n : Nat}, eqTo xs ys n = true ↔ ∀ j, j < n → atZ xs j = atZ ys j
  | 0 => ⟨fun _ j hj => by omega, fun _ => rfl⟩
  | n + 1 => by
    rw [eqTo, Bool.and_eq_true, decide_eq_true_eq, eqTo_at]
    constructor
    · rintro ⟨a, b⟩ j hj
      rcases Nat.lt_or_ge j n with h | h
      · exact a j h
      · obtain rfl : j = n := by omega
        exact b
    · intro h
      exact ⟨fun j hj => h j (by omega), h n (by omega)⟩
theorem eqTo_all {xs ys : List ZInt} (h : xs.length = ys.length) : eqTo xs ys ys.length = decide (xs = ys) := by
  by_cases e : xs = ys
  · rw [decide_eq_true e, eqTo_at, e]
    exact fun _ _ => rfl
  · rw [decide_eq_false e]
    cases he : eqTo xs ys ys.length with
    | false => rfl
    | true =>
      rw [eqTo_at] at he
      refine absurd (List.ext_getElem h fun j h1 h2 => ?_) e
      have := he j h2
      rwa [atZ_eq (List.getElem?_eq_getElem h1), atZ_eq (List.getElem?_eq_getElem h2)] at this
/-- One of the first j rows bears the arguments. -/
def rowsHave (A : List ZInt) (rows : List TRow) : Nat → Bool
  | 0 => false
  | j + 1 => rowsHave A rows j || (match rows[j]? with | some r => decide (r.args = A) | none => false)
theorem rowsHave_succ {A : List ZInt} {rows : List TRow} {j : Nat} {r : TRow} (h : rows[j]? = some r) : rowsHave A rows (j + 1) = (rowsHave A rows j || decide (r.args = A)) := by rw [rowsHave, h]
theorem rowsHave_no {A : List ZInt} {rows : List TRow} : ∀ {n : Nat}, rowsHave A rows n = false → ∀ j r, j < n → rows[j]? = some r → r.args ≠ A
  | 0, _, j, r, hj, _ => by omega
  | n + 1, h, j, r, hj, hr => by
    rw [rowsHave, Bool.or_eq_false_iff] at h
    rcases Nat.lt_or_ge j n with h1 | h1
    · exact rowsHave_no h.1 j r h1 hr
    · obtain rfl : j = n := by omega
      rw [hr] at h
      exact of_decide_eq_false h.2
theorem noRow_of {f : Fun} {t : Table} (h : rowsHave (elseArgs f) t.rows t.rows.length = false) : NoRow f t := fun r hr => by
  obtain ⟨j, hj⟩ := List.getElem?_of_mem hr
  exact rowsHave_no h j r (List.getElem?_eq_some_iff.1 hj).1 hj
theorem set_same {α : Type} {xs : List α} {k : Nat} {x : α} (h : xs[k]? = some x) : xs.set k x = xs := by
  obtain ⟨hk, rfl⟩ := List.getElem?_eq_some_iff.1 h
  exact List.set_getElem_self hk
theorem Own.lit1 {α : Type} {k : Kd α} {w : World} {base : Nat} {e : TypeId} {O : Nat → Prop} {x : α} {cs : List Value} (H : Nat) (hH : w.heap.size = H) (hb : base ≤ w.heap.size) (hx : k.rep w (PlusV O (.slice (some ⟨H, 0, none⟩) 1 1)) x cs) :
    Own (w.alloc (.cells cs.toArray e)) base e k O (.slice (some ⟨H, 0, none⟩) 1 1) [x] := by
  subst hH
  refine ⟨[cs], ?_, .cons (k.ext hx ((Ext.refl _ _).alloc _)) .nil⟩
  have h := World.ownsRow_lit (e := e) (size := k.size) w cs.toArray 1 hb (by simp [maxLen]) (by simpa using k.len hx)
  simpa using h
theorem agg_rep {α : Type} {k : Kd α} {W : World} {O : Nat → Prop} {x : α} {cs : List Value} (h : k.agg W O x (.agg cs.toArray)) : k.rep W O x cs := by
  obtain ⟨cs', hcs, hrep⟩ := h
  injection hcs with hcs
  have e := congrArg Array.toList hcs
  simp only at e
  rw [e]
  exact hrep
end Go.Proofs.YtfpmapbimhdafaaGreatDoor

namespace Go.Proofs.YtfpmapbimhdafaaGreatDoor
open Go.RowKit
set_option linter.unusedVariables false
set_option linter.unusedSimpArgs false

section
variable {w : World}
set_option maxRecDepth 100000 in
set_option maxHeartbeats 8000000 in
theorem c_EvalElse (d : Dump) (m : Model) (fi : Int) (vd vm : Value) (hd : kDump.agg w NoB d vd) (hm : kModel.agg w NoB m vm) (hfi : (Lit.int .i64 fi).wf = true) :
    Calls Tryz.prog 6 #[vd, vm, .int .i64 fi] w fun e w' => e = .returned (.bool true) ∧ Ext NoB w w' := by
  have hd0 := hd
  have hm0 := hm
  obtain ⟨v1, v2, v3, v4, rfl, _⟩ := dump_open hd
  obtain ⟨B1, c1, B2, c2, rfl, _, _⟩ := model_open hm
  have HD := Lib.hid hd0
  have HM := Lib.hid hm0
  have HE0 : Hid (Ext NoB w ((w.alloc (.cells #[v1, v2, v3, v4] 27)).alloc (.cells #[.slice B1 m.sizes.length c1, .slice B2 m.funs.length c2] 31))) := Lib.hid (((Ext.refl _ _).alloc _).alloc _)
  clear hd hd0 hm hm0
  go_enter Tryz.func6, Tryz.ntmps6
  go_wp2_with fail
  have HBD : Hid (Bq w.heap.size v1 v2 v3 v4 ((w.alloc (.cells #[v1, v2, v3, v4] 27)).alloc (.cells #[.slice B1 m.sizes.length c1, .slice B2 m.funs.length c2] 31))) := Lib.hid ⟨by go_simp, by go_simp, by go_simp, by go_simp⟩
  have HBM : Hid (ZB (w.heap.size + 1) (.slice B1 m.sizes.length c1) (.slice B2 m.funs.length c2) ((w.alloc (.cells #[v1, v2, v3, v4] 27)).alloc (.cells #[.slice B1 m.sizes.length c1, .slice B2 m.funs.length c2] 31))) := Lib.hid ⟨by go_simp, by go_simp⟩
  generalize (w.alloc (.cells #[v1, v2, v3, v4] 27)).alloc (.cells #[.slice B1 m.sizes.length c1, .slice B2 m.funs.length c2] 31) = w0 at *
  replace HD := Lib.hid (kDump.aggExt HD.out HE0.out)
  replace HM := Lib.hid (kModel.aggExt HM.out HE0.out)
  generalize hgd : w.heap.size = gd at *
  generalize hgm : gd + 1 = gm at *
  clear hgd hgm
  refine c_speaks.mono ?_
  rintro e u1 ⟨rfl, hq⟩
  have HQ1 := Lib.hid hq
  obtain ⟨d0, d1, d2, d3⟩ := HBD.out.ext HQ1.out (fun h => h)
  have ld := cell_lt d0
  clear hq
  go_wp2_with fail
  clear d0 d1 d2 d3 ld
  refine (c_Great d _ (kDump.aggExt HD.out HQ1.out)).mono ?_
  rintro e u2 ⟨b, rfl, hb, hq⟩
  have HQ2 := Lib.hid (HQ1.out.trans hq)
  have HSM := Lib.hid hb
  obtain ⟨d0, d1, d2, d3⟩ := HBD.out.ext HQ2.out (fun h => h)
  obtain ⟨m0, m1⟩ := HBM.out.ext HQ2.out (fun h => h)
  have ld := cell_lt d0
  have lm := cell_lt m0
  clear hq hb HQ1
  cases b with
  | true =>
    go_wp2_with fail
    go_ret
    exact ⟨rfl, HE0.out.trans HQ2.out⟩
  | false =>
  have HS := Lib.hid (HSM.out rfl)
  clear HSM
  go_wp2_with fail
  clear d0 d1 d2 d3 ld m0 m1 lm
  refine (c_rLoad d _ (kDump.aggExt HD.out HQ2.out) HS.out).mono ?_
  rintro e u3 ⟨b, rfl, hb, hq⟩
  have HQ3 := Lib.hid (HQ2.out.trans hq)
  have HLL := Lib.hid hb
  obtain ⟨d0, d1, d2, d3⟩ := HBD.out.ext HQ3.out (fun h => h)
  obtain ⟨m0, m1⟩ := HBM.out.ext HQ3.out (fun h => h)
  have ld := cell_lt d0
  have lm := cell_lt m0
  clear hq hb HQ2
  cases b with
  | false =>
    go_wp2_with fail
    go_ret
    exact ⟨rfl, HE0.out.trans HQ3.out⟩
  | true =>
  have HL := Lib.hid (HLL.out rfl)
  clear HLL
  go_wp2_with fail
  clear d0 d1 d2 d3 ld m0 m1 lm
  refine (c_Odd m _ (kModel.aggExt HM.out HQ3.out)).mono ?_
  rintro e u4 ⟨b, rfl, hb, hq⟩
  have HQ4 := Lib.hid (HQ3.out.trans hq)
  have HOO := Lib.hid hb
  obtain ⟨d0, d1, d2, d3⟩ := HBD.out.ext HQ4.out (fun h => h)
  obtain ⟨m0, m1⟩ := HBM.out.ext HQ4.out (fun h => h)
  have ld := cell_lt d0
  have lm := cell_lt m0
  clear hq hb HQ3
  cases b with
  | true =>
    go_wp2_with fail
    go_ret
    exact ⟨rfl, HE0.out.trans HQ4.out⟩
  | false =>
  have HML := Lib.hid (HOO.out rfl)
  clear HOO
  go_wp2_with fail
  clear d0 d1 d2 d3 ld m0 m1 lm
  refine (c_Wild d _ (kDump.aggExt HD.out HQ4.out) HS.out).mono ?_
  rintro e u5 ⟨b, rfl, hb, hq⟩
  have HQ5 := Lib.hid (HQ4.out.trans hq)
  have HOO := Lib.hid hb
  obtain ⟨d0, d1, d2, d3⟩ := HBD.out.ext HQ5.out (fun h => h)
  obtain ⟨m0, m1⟩ := HBM.out.ext HQ5.out (fun h => h)
  have ld := cell_lt d0
  have lm := cell_lt m0
  clear hq hb HQ4
  cases b with
  | true =>
    go_wp2_with fail
    go_ret
    exact ⟨rfl, HE0.out.trans HQ5.out⟩
  | false =>
  have HWI := Lib.hid (HOO.out rfl)
  clear HOO
  go_wp2_with fail
  clear d0 d1 d2 d3 ld m0 m1 lm
  refine (c_rModel d _ (kDump.aggExt HD.out HQ5.out) HS.out HL.out m _ (kModel.aggExt HM.out HQ5.out) HML.out).mono ?_
  rintro e u6 ⟨rfl, hq⟩
  have HQ6 := Lib.hid (HQ5.out.trans hq)
  obtain ⟨d0, d1, d2, d3⟩ := HBD.out.ext HQ6.out (fun h => h)
  obtain ⟨m0, m1⟩ := HBM.out.ext HQ6.out (fun h => h)
  have ld := cell_lt d0
  have lm := cell_lt m0
  clear hq HQ5
  cases hmb : modelB d m with
  | false =>
    go_wp2_with fail
    go_ret
    exact ⟨rfl, HE0.out.trans HQ6.out⟩
  | true =>
  have HEV : Hid (EvOk d m) := Lib.hid ⟨HS.out, HL.out, HWI.out, mod_sm hmb HML.out (mod_dig HM.out), hmb⟩
  have hml : m.funs.length ≤ 50 := HML.out.2.1
  have HMLL := Lib.hid HML.out
  clear hmb
  by_cases hz : m.funs.length = 0
  · have q : ((m.funs.length : Int) == 0) = true := by rw [beq_iff_eq]; omega
    clear hz
    go_wp2_with fail
    go_ret
    exact ⟨rfl, HE0.out.trans HQ6.out⟩
  have qz : ((m.funs.length : Int) == 0) = false := by rw [beq_eq_false_iff_ne]; omega
  go_wp2_with fail
  clear d0 d1 d2 d3 ld m0 m1 lm qz
  refine (c_Loaded d _ (kDump.aggExt HD.out HQ6.out) HS.out HL.out).mono ?_
  rintro e u7 ⟨s, O, rfl, hscr, hgr⟩
  have HSC := Lib.hid hscr
  have HOLD : Hid (OldO O u7) := Lib.hid (by obtain ⟨p, A, vc, _, _, _, hA⟩ := hscr; exact hA.old)
  have HQ7 := Lib.hid (HQ6.out.trans hgr.1)
  have HMO := Lib.hid (kModel.aggKeep (kModel.aggExt HM.out HQ6.out) hgr.1 hgr.2)
  obtain ⟨m0, m1⟩ := HBM.out.ext HQ7.out (fun h => h)
  have lm := cell_lt m0
  have HDO := Lib.hid (kDump.aggKeep (kDump.aggExt HD.out HQ6.out) hgr.1 hgr.2)
  have HBD7 := Lib.hid (HBD.out.ext HQ7.out (fun h => h))
  have HBM7 := Lib.hid (HBM.out.ext HQ7.out (fun h => h))
  have HFL : Hid (m.sizes.length = d.sorts.length ∧ m.funs.length = d.funs.length ∧ sizesTo m.sizes m.sizes.length = true ∧ funsTo d m d.funs.length = true) := Lib.hid (modelB_iff.1 HEV.out.right)
  have hms2 : 2 ≤ m.sizes.length := by have := HFL.out.1; have := HL.out.two; omega
  have hms30 : m.sizes.length ≤ 30 := HML.out.1
  clear hscr hgr HQ6 HD HS HL HML HWI HM
  unfold ptr
  have hfl0 : 0 < m.funs.length := by omega
  clear hz
  go_upto_region 9 with fail
  obtain ⟨T1, t1, T2, t2, hme, hsz, htb⟩ := model_open HMO.out
  injection hme with hme
  simp only [Array.mk.injEq, List.cons.injEq, Value.slice.injEq, and_true, true_and] at hme
  obtain ⟨⟨rfl, rfl⟩, rfl, rfl⟩ := hme
  have HSZ := Lib.hid hsz
  have HTB := Lib.hid htb
  have HE8 : Hid (Ext NoB u7 (u7.alloc (.cells #[.slice B1 m.sizes.length c1, .slice B2 m.funs.length c2] 31))) := Lib.hid ((Ext.refl _ _).alloc _)
  have HX8 : Hid (ZB u7.heap.size (.slice B1 m.sizes.length c1) (.slice B2 m.funs.length c2) (u7.alloc (.cells #[.slice B1 m.sizes.length c1, .slice B2 m.funs.length c2] 31)) ∧ (u7.alloc (.cells #[.slice B1 m.sizes.length c1, .slice B2 m.funs.length c2] 31)).frozen? ⟨u7.heap.size, 1, none⟩ = false ∧ (u7.alloc (.cells #[.slice B1 m.sizes.length c1, .slice B2 m.funs.length c2] 31)).frozen? ⟨u7.heap.size, 0, none⟩ = false ∧ u7.heap.size < (u7.alloc (.cells #[.slice B1 m.sizes.length c1, .slice B2 m.funs.length c2] 31)).heap.size) := Lib.hid ⟨⟨by go_simp, by go_simp⟩, by go_simp, by go_simp, by simp⟩
  clear hsz htb m0 m1 lm
  obtain ⟨gx, hgx⟩ : ∃ gx, u7.heap.size = gx := ⟨_, rfl⟩
  rw [hgx] at HX8 ⊢
  have HGX := Lib.hid hgx
  clear hgx
  generalize (u7.alloc (.cells #[.slice B1 m.sizes.length c1, .slice B2 m.funs.length c2] 31)) = wx8 at *
  obtain ⟨m0, m1⟩ := HBM7.out.ext HE8.out (fun h => h)
  obtain ⟨⟨x0, x1⟩, fx, fx0, lx⟩ := HX8.out
  have lm := cell_lt m0
  have HTB8 : Hid (kTables.one (wx8.alloc (.cells #[] 58)) (PlusV (Plus O gx) (.slice (some ⟨wx8.heap.size, 0, none⟩) 0 0)) m.funs (.slice B2 m.funs.length c2)) := Lib.hid (by
    refine kTables.oneKeep HTB.out ((HE8.out.alloc _).no) fun b hb h => h.elim (fun h => h.elim id fun e => by have := HGX.out; omega) fun e => ?_
    have e' : some wx8.heap.size = some b := e
    injection e' with e'
    have := HE8.out.size
    omega)
  go_upto_region 10 with (at_builtin; refine wpl_append kTable (by decide) rfl (.tmp 59) (.tmp 61) 29 rfl wx8.heap.size 58 _ 56 Tryz.underlying29 info_Table rfl (Plus O gx) (.slice (some ⟨wx8.heap.size, 0, none⟩) 0 0) rfl [] (Own.lit0 (Nat.le_refl _)) _ rfl m.funs HTB8.out (by omega) (by simp only [List.length_nil]; omega) (by simp) ?_; intro v9 w9 hO9 hE9 hat9; rw [List.nil_append] at hO9; (have HO9 := Lib.hid hO9); (have HE9 : Hid (Ext NoB wx8 w9) := Lib.hid (((Ext.refl NoB wx8).alloc _).then hE9 (fun i hi h => by have h' : some wx8.heap.size = some i := h; injection h'; omega))); (have X0 := HE9.out.cell x0 id); (have X1 := HE9.out.cell x1 id); (have FX := (HE9.out.frozen (p := ⟨gx, 1, none⟩) lx id).trans fx); (have FX0 := (HE9.out.frozen (p := ⟨gx, 0, none⟩) lx id).trans fx0); (have M0 := HE9.out.cell m0 id); (have M1 := HE9.out.cell m1 id); (have LX := cell_lt X0); (have LM := cell_lt M0); (obtain ⟨T9, c9, hv9, -, -⟩ := hO9.shape); subst hv9; clear hO9 hE9 hat9)
  have HE10 : Hid (Ext NoB u7 (w9.setCell ⟨gx, 1, none⟩ (.slice T9 m.funs.length c9))) := Lib.hid ((HE8.out.trans HE9.out).setNew (p := ⟨gx, 1, none⟩) (by rw [HGX.out]; exact Nat.le_refl _) _)
  have HX10 : Hid (ZB gx (.slice B1 m.sizes.length c1) (.slice T9 m.funs.length c9) (w9.setCell ⟨gx, 1, none⟩ (.slice T9 m.funs.length c9)) ∧ (w9.setCell ⟨gx, 1, none⟩ (.slice T9 m.funs.length c9)).frozen? ⟨gx, 0, none⟩ = false) := Lib.hid ⟨⟨by go_simp, by go_simp⟩, by go_simp⟩
  obtain ⟨tg, hT9⟩ : ∃ tg, T9 = some ⟨tg, 0, none⟩ := by
    obtain ⟨g, c, hv⟩ := HO9.out.form (by omega)
    injection hv with hv
    exact ⟨g, hv⟩
  subst hT9
  obtain ⟨htg0, htg1⟩ : wx8.heap.size ≤ tg ∧ tg < w9.heap.size := HO9.out.base rfl
  have hgx8 : gx < wx8.heap.size := lx
  have HO10 : Hid (Own (w9.setCell ⟨gx, 1, none⟩ (.slice (some ⟨tg, 0, none⟩) m.funs.length c9)) wx8.heap.size 58 kTable (Plus O gx) (.slice (some ⟨tg, 0, none⟩) m.funs.length c9) m.funs) := Lib.hid (HO9.out.keep ((Ext.refl (fun b => b = gx) w9).setO (p := ⟨gx, 1, none⟩) rfl _) (fun b hb e => ⟨.inr e, fun e2 => by
    have e2' : some tg = some b := e2
    injection e2' with e2'
    omega⟩))
  have hsz10 : (w9.setCell ⟨gx, 1, none⟩ (.slice (some ⟨tg, 0, none⟩) m.funs.length c9)).heap.size = w9.heap.size := by simp [World.setCell]
  have hs89 := HE9.out.size
  have hs78 : u7.heap.size ≤ wx8.heap.size := HE8.out.size
  have HSZS : Hid (gx = u7.heap.size ∧ u7.heap.size ≤ wx8.heap.size ∧ gx < wx8.heap.size ∧ wx8.heap.size ≤ tg ∧ tg < (w9.setCell ⟨gx, 1, none⟩ (.slice (some ⟨tg, 0, none⟩) m.funs.length c9)).heap.size) := Lib.hid (by have := HGX.out; rw [hsz10]; omega)
  clear X0 X1 FX FX0 M0 M1 LX LM x0 x1 fx fx0 lx m0 m1 lm htg0 htg1 hgx8 hsz10 hs89 hs78 HO9 HE9 HTB8 HX8 HE8
  generalize w9.setCell ⟨gx, 1, none⟩ (.slice (some ⟨tg, 0, none⟩) m.funs.length c9) = w10 at *
  obtain ⟨m0, m1⟩ := HBM7.out.ext HE10.out (fun h => h)
  obtain ⟨⟨x0, x1⟩, fx0⟩ := HX10.out
  have lm := cell_lt m0
  have lx := cell_lt x0
  have HSZ10 : Hid (kInts.one (w10.alloc (.cells #[] 3)) (PlusV (Plus O gx) (.slice (some ⟨w10.heap.size, 0, none⟩) 0 0)) m.sizes (.slice B1 m.sizes.length c1)) := Lib.hid (by
    refine kInts.oneKeep HSZ.out ((HE10.out.alloc _).no) fun b hb h => h.elim (fun h => h.elim id fun e => by have := HGX.out; omega) fun e => ?_
    have e' : some w10.heap.size = some b := e
    injection e' with e'
    have := HE10.out.size
    omega)
  go_upto_region 11 with (at_builtin; refine wpl_append kInt (by decide) rfl (.tmp 64) (.tmp 66) 28 rfl w10.heap.size 3 _ 8 Tryz.underlying28 info_int rfl (Plus O gx) (.slice (some ⟨w10.heap.size, 0, none⟩) 0 0) rfl [] (Own.lit0 (Nat.le_refl _)) _ rfl m.sizes HSZ10.out (by omega) (by simp only [List.length_nil]; omega) (by simp) ?_; intro v11 w11 hO11 hE11 hat11; rw [List.nil_append] at hO11; (have HO11 := Lib.hid hO11); (have HE11 : Hid (Ext NoB w10 w11) := Lib.hid (((Ext.refl NoB w10).alloc _).then hE11 (fun i hi h => by have h' : some w10.heap.size = some i := h; injection h'; omega))); (have X0 := HE11.out.cell x0 id); (have X1 := HE11.out.cell x1 id); (have FX0 := (HE11.out.frozen (p := ⟨gx, 0, none⟩) lx id).trans fx0); (have LX := cell_lt X0); (obtain ⟨S11, c11, hv11, -, -⟩ := hO11.shape); subst hv11; clear hO11 hE11 hat11)
  obtain ⟨sg, hS11⟩ : ∃ sg, S11 = some ⟨sg, 0, none⟩ := by
    obtain ⟨g, c, hv⟩ := HO11.out.form (by omega)
    injection hv with hv
    exact ⟨g, hv⟩
  subst hS11
  obtain ⟨hsg0, hsg1⟩ : w10.heap.size ≤ sg ∧ sg < w11.heap.size := HO11.out.base rfl
  have HSG := Lib.hid hsg0
  have HE12 : Hid (Ext (fun b => b = gx ∨ b = sg) w10 (w11.setCell ⟨gx, 0, none⟩ (.slice (some ⟨sg, 0, none⟩) m.sizes.length c11))) := Lib.hid ((HE11.out.no).setO (p := ⟨gx, 0, none⟩) (.inl rfl) _)
  have HX12 : Hid (ZB gx (.slice (some ⟨sg, 0, none⟩) m.sizes.length c11) (.slice (some ⟨tg, 0, none⟩) m.funs.length c9) (w11.setCell ⟨gx, 0, none⟩ (.slice (some ⟨sg, 0, none⟩) m.sizes.length c11))) := Lib.hid ⟨by go_simp, by go_simp⟩
  have HO12 : Hid (Own (w11.setCell ⟨gx, 0, none⟩ (.slice (some ⟨sg, 0, none⟩) m.sizes.length c11)) w10.heap.size 3 kInt (Plus O gx) (.slice (some ⟨sg, 0, none⟩) m.sizes.length c11) m.sizes) := Lib.hid (HO11.out.keep ((Ext.refl (fun b => b = gx) w11).setO (p := ⟨gx, 0, none⟩) rfl _) (fun b hb e => ⟨.inr e, fun e2 => by
    have e2' : some sg = some b := e2
    injection e2' with e2'
    have := HSZS.out
    omega⟩))
  clear X0 X1 FX0 LX x0 x1 fx0 lx m0 m1 lm hsg0 hsg1 HO11 HE11 HSZ10 HX10
  generalize w11.setCell ⟨gx, 0, none⟩ (.slice (some ⟨sg, 0, none⟩) m.sizes.length c11) = w12 at *
  go_wp2_with fail
  go_loopw [9] (fun i wr => ∃ (k : Nat) (ys : List Int), 2 ≤ k ∧ k ≤ m.sizes.length ∧ i = .int .i64 k ∧ Hid (UpTo m.sizes ys k) ∧ Hid (Own wr w10.heap.size 3 kInt (Plus O gx) (.slice (some ⟨sg, 0, none⟩) m.sizes.length c11) ys) ∧ Hid (Ext (fun b => b = gx ∨ b = sg) w10 wr) ∧ Hid (ZB gx (.slice (some ⟨sg, 0, none⟩) m.sizes.length c11) (.slice (some ⟨tg, 0, none⟩) m.funs.length c9) wr)) (fun i _ => m.sizes.length - (intOf i).toNat)
  case atStart => exact ⟨2, m.sizes, by omega, hms2, rfl, Lib.hid (UpTo.start _), HO12, HE12, HX12⟩
  case round =>
    clear HO12 HE12 HX12
    obtain ⟨k, ys, hk2, hk, rfl, HU, HYO, HER, HXR⟩ := hrel
    obtain ⟨x0, x1⟩ := HXR.out
    have lx := cell_lt x0
    by_cases hlt : k < m.sizes.length
    · have hky : k < ys.length := by have := HU.out.1; omega
      obtain ⟨s0, _⟩ := HYO.out.int_at hky
      have f0 := HYO.out.frozenAt k
      have ls := cell_lt s0
      rw [HU.out.now hlt] at s0
      obtain ⟨b1, b2⟩ := sizes_at HFL.out.2.2.1 hk2 hlt
      by_cases h1 : rdI m.sizes k < 1000
      · have q1 : decide (rdI m.sizes k < 1000) = true := decide_eq_true h1
        have HU2 := Lib.hid (HU.out.step hk2 hlt)
        have hset := HYO.out.set1 rfl (j := k) hky (x := upS (rdI m.sizes k)) (u := .int .i64 (upS (rdI m.sizes k))) ⟨rfl, wf_i (by rw [upS]; split <;> omega) (by rw [upS]; split <;> omega)⟩
        have hup : upS (rdI m.sizes k) = rdI m.sizes k + 1 := by rw [upS, if_pos h1]
        rw [hup] at hset
        have HSET := Lib.hid hset.1
        have HER2 : Hid (Ext (fun b => b = gx ∨ b = sg) w10 (wr.setCell ⟨sg, k, none⟩ (.int .i64 (rdI m.sizes k + 1)))) := Lib.hid (HER.out.setO (p := ⟨sg, k, none⟩) (.inr rfl) _)
        have HXR2 := Lib.hid (HXR.out.ext hset.2 (fun e => by
          have e' : some sg = some gx := e
          injection e' with e'
          have := HSZS.out
          have := HSG.out
          omega))
        rw [hup] at HU2
        have hbig : rdI m.sizes k ≤ 1000000 := by omega
        have hpos : 0 ≤ rdI m.sizes k := by omega
        clear h1 hset hup b1 b2
        generalize rdI m.sizes k = sk at *
        go_wp2_with fail
        exact ⟨⟨k + 1, _, by omega, by omega, by go_num, HU2, HSET, HER2, HXR2⟩, by simp [intOf]; omega⟩
      · have q1 : decide (rdI m.sizes k < 1000) = false := decide_eq_false h1
        have HU2 := Lib.hid (HU.out.stay hlt h1)
        clear h1 b1 b2
        generalize rdI m.sizes k = sk at *
        go_wp2_with fail
        exact ⟨⟨k + 1, _, by omega, by omega, by go_num, HU2, HYO, HER, HXR⟩, by simp [intOf]; omega⟩
    · obtain rfl : k = m.sizes.length := by omega
      clear hlt hk hk2
      generalize wr = wE at *
      have HEu : Hid (Ext NoB u7 wE) := Lib.hid (HE10.out.then HER.out (fun i hi h => by
        have h1 := HSZS.out
        have h2 := HSG.out
        have h3 := HE10.out.size
        rcases h with h | h <;> omega))
      have HTO : Hid (Own wE wx8.heap.size 58 kTable (Plus (Plus O gx) sg) (.slice (some ⟨tg, 0, none⟩) m.funs.length c9) m.funs) := Lib.hid ((HO10.out.turn (O' := Plus (Plus O gx) sg) (fun b hb h => h.elim id (fun e => by have := HSG.out; omega))).keep HER.out (fun b hb h => ⟨h.elim (fun e => .inl (.inr e)) (fun e => .inr e), fun e2 => by
        have e2' : some tg = some b := e2
        injection e2' with e2'
        have h1 := HSZS.out
        have h2 := HSG.out
        rcases h with h | h <;> omega⟩))
      have HSGE : Hid (sg < wE.heap.size ∧ w10.heap.size ≤ wE.heap.size) := Lib.hid ⟨(HYO.out.base (g := sg) rfl).2, HER.out.size⟩
      obtain ⟨O2, hO2⟩ : ∃ O2, O2 = PlusV (Plus (Plus O gx) sg) (.slice (some ⟨tg, 0, none⟩) m.funs.length c9) := ⟨_, rfl⟩
      have HO2E := Lib.hid hO2
      have HLOW : Hid (∀ b, b < u7.heap.size → O2 b → O b) := Lib.hid (fun b hb h => by
        rw [hO2] at h
        have h1 := HSZS.out
        have h2 := HSG.out
        have h3 := HE10.out.size
        rcases h with ((h | h) | h) | h
        · exact h
        · omega
        · omega
        · have h' : some tg = some b := h
          injection h'
          omega)
      have HOLD2 : Hid (OldO O2 wE) := Lib.hid (fun b h => by
        rw [hO2] at h
        have h1 := HSZS.out
        have h2 := HSGE.out
        have h3 := HEu.out.size
        rcases h with ((h | h) | h) | h
        · have := HOLD.out b h
          omega
        · omega
        · omega
        · have h' : some tg = some b := h
          injection h'
          omega)
      clear hO2
      obtain ⟨e1, e2, e3, e4, hde, _, hfn, _, _⟩ := dump_open HDO.out
      injection hde with hde
      simp only [Array.mk.injEq, List.cons.injEq, and_true] at hde
      obtain ⟨rfl, rfl, rfl, rfl⟩ := hde
      obtain ⟨A2, n2, hv2, _, _, hrF⟩ := Kd.one_slice hfn
      subst hv2
      obtain ⟨kk, hklt, hkk⟩ := pick_lt fi hfl0
      have qz : ((m.funs.length : Int) == 0) = false := by rw [beq_eq_false_iff_ne]; omega
      have hfl1 : ¬ ((m.funs.length : Int) = 0) := by omega
      have hkd : kk < d.funs.length := by have := HFL.out.2.1; omega
      obtain ⟨f, hf⟩ := at_some hkd
      obtain ⟨fb, fo, hFF, _, hrow⟩ := hrF (ne_nil_of_lt hkd)
      subst hFF
      obtain ⟨Fa, fac, ⟨_, f1, _⟩, hfa, _, _⟩ := row_fun hrow hf
      have f1 := HEu.out.cell f1 id
      have HFA := Lib.hid hfa
      have HFF := Lib.hid hf
      have hfl10 : f.args.length ≤ 10 := (HEV.out.small.fu f (List.mem_of_getElem? hf)).1
      obtain ⟨m0, m1⟩ := HBM7.out.ext HEu.out (fun h => h)
      obtain ⟨d0, d1, d2, d3⟩ := HBD7.out.ext HEu.out (fun h => h)
      have jf1 : (kk : Int) < (d.funs.length : Int) := by omega
      have lm := cell_lt m0
      have ld := cell_lt d0
      have lf := cell_lt f1
      clear hfn hrF hrow hf hfa
      go_wp2_with fail
      clear hkk qz hfl1 m0 m1 d0 d1 d2 d3 f1 lm ld lf jf1 x0 x1 lx
      go_loopw [11, 103] (fun av i wr => ∃ (j : Nat) (zs : List ZInt) (vv : Value), j ≤ f.args.length ∧ i = .int .i64 j ∧ vv = av ∧ Hid (zs = (elseArgs f).take j) ∧ Hid (Own wr wE.heap.size 50 kZ O2 vv zs) ∧ Hid (Ext NoB wE wr)) (fun _ i _ => f.args.length - (intOf i).toNat)
      case atStart => exact ⟨0, [], _, Nat.zero_le _, rfl, rfl, Lib.hid rfl, Lib.hid (Own.lit0 (Nat.le_refl _)), Lib.hid ((Ext.refl _ _).alloc _)⟩
      case round =>
        obtain ⟨j, zs, vv, hj, rfl, rfl, HZS, HZO, HEJ⟩ := hrel
        by_cases hlt : j < f.args.length
        · obtain ⟨_, _, hv, _, _, hr⟩ := Kd.one_slice (kInts.oneExt HFA.out (HEu.out.trans HEJ.out).no)
          injection hv with hv1 hv2 hv3
          subst hv1
          clear hv2 hv3
          obtain ⟨ib, io, hI, _, i0, _⟩ := ints_at hr hlt
          subst hI
          have li := cell_lt i0
          have HZS2 : Hid (zs ++ [elseZ (rdI f.args j)] = (elseArgs f).take (j + 1)) := Lib.hid (by rw [take_snoc' (elseArgs_at hlt), HZS.out])
          have hzl : zs.length ≤ 10 := by have := congrArg List.length HZS.out; rw [List.length_take, elseArgs_len] at this; omega
          have hown := HZO.out
          have hwe : wE.heap.size ≤ wr.heap.size := HEJ.out.size
          have jb : (j : Int) < (f.args.length : Int) := by omega
          clear hr
          by_cases ha : rdI f.args j = 1
          · rw [ha] at i0
            have HEZ : Hid (elseZ (rdI f.args j) = ofN 77) := Lib.hid (by rw [elseZ, if_pos ha])
            have HE1 : Hid (Ext NoB wr (wr.alloc (.cells #[.bool false, .slice none 0 0] 50))) := Lib.hid ((Ext.refl _ _).alloc _)
            have HNB : Hid (RB wr.heap.size (wr.alloc (.cells #[.bool false, .slice none 0 0] 50))) := Lib.hid ⟨by go_simp, by go_simp, by go_simp, by go_simp⟩
            clear ha
            go_wp2_with fail
            refine (c_Of 77 _ (Plus (PlusV O2 vv) wr.heap.size) (fun b hb => by
              rw [show (wr.alloc (.cells #[.bool false, .slice none 0 0] 50)).heap.size = wr.heap.size + 1 by simp]
              rcases hb with (hb | hb) | hb
              · have := HOLD2.out b hb
                omega
              · have := (hown.base hb).2
                omega
              · omega) (by omega)).mono ?_
            rintro e w4 ⟨v4, rfl, hz4, hq4⟩
            obtain ⟨A4, c4, rfl⟩ := z_form hz4
            have HZ4 := Lib.hid hz4
            obtain ⟨r0, r1, g0, g1⟩ := HNB.out.ext hq4 (fun h => h)
            have lr := cell_lt r0
            have HE4 := Lib.hid (HE1.out.trans hq4)
            have hgr : wr.heap.size < w4.heap.size := lr
            generalize hrg : wr.heap.size = rg at *
            have HRG := Lib.hid hrg
            have HR2 : Hid (kZ.agg ((w4.setCell ⟨rg, 0, none⟩ (.bool (ofN 77).neg)).setCell ⟨rg, 1, none⟩ (.slice A4 (ofN 77).digs.length c4)) (PlusV O2 vv) (ofN 77) (.agg #[.bool (ofN 77).neg, .slice A4 (ofN 77).digs.length c4])) := Lib.hid (kZ.aggMinus HZ4.out (Ext.set2 _ _ _ _ _))
            have HE5 : Hid (Ext NoB wr ((w4.setCell ⟨rg, 0, none⟩ (.bool (ofN 77).neg)).setCell ⟨rg, 1, none⟩ (.slice A4 (ofN 77).digs.length c4))) := Lib.hid ((HE4.out.setNew (p := ⟨rg, 0, none⟩) (by rw [hrg]; exact Nat.le_refl _) _).setNew (p := ⟨rg, 1, none⟩) (by rw [hrg]; exact Nat.le_refl _) _)
            clear hz4 hq4 hrg HNB HE1 HE4
            go_upto_region 24 with fail
            have n0 : ((w4.setCell ⟨rg, 0, none⟩ (.bool (ofN 77).neg)).setCell ⟨rg, 1, none⟩ (.slice A4 (ofN 77).digs.length c4)).cell? ⟨rg, 0, none⟩ = some (.bool (ofN 77).neg) := by go_simp
            have n1 : ((w4.setCell ⟨rg, 0, none⟩ (.bool (ofN 77).neg)).setCell ⟨rg, 1, none⟩ (.slice A4 (ofN 77).digs.length c4)).cell? ⟨rg, 1, none⟩ = some (.slice A4 (ofN 77).digs.length c4) := by go_simp
            clear r0 r1 g0 g1
            replace hown := hown.ext HE5.out
            have hwe5 := Nat.le_trans hwe (Nat.le_trans (Nat.le_of_eq HRG.out.symm) HE5.out.size)
            have HEJ5 := Lib.hid (HEJ.out.trans HE5.out)
            generalize (w4.setCell ⟨rg, 0, none⟩ (.bool (ofN 77).neg)).setCell ⟨rg, 1, none⟩ (.slice A4 (ofN 77).digs.length c4) = w5 at *
            go_wp2_with (at_builtin; refine wpl_append1 kZ (by decide) rfl (.tmp 111) (.tmp 113) 38 rfl wE.heap.size 50 _ 32 Tryz.underlying38 info_Z rfl O2 vv rfl zs hown rfl (ofN 77) [_, _] (agg_rep HR2.out) (HOLD2.out.ext HEJ5.out) (by omega) (by omega) hwe5 ?_; intro v15 w15 hO15 hE15 hat15; (have HO15 := Lib.hid hO15); (have HE15 : Hid (Ext NoB wE w15) := Lib.hid (HEJ5.out.then hE15 (fun i hi h => by have := (hown.base h).1; omega))); clear hO15 hE15 hat15)
            exact ⟨⟨j + 1, _, _, by omega, by go_num, rfl, by rw [HEZ.out] at HZS2; exact HZS2, HO15, HE15⟩, by simp [intOf]; omega⟩
          · have qa : (rdI f.args j == 1) = false := by rw [beq_eq_false_iff_ne]; exact ha
            have HEZ : Hid (elseZ (rdI f.args j) = ⟨false, []⟩) := Lib.hid (by rw [elseZ, if_neg ha])
            have HE1 : Hid (Ext NoB wr (wr.alloc (.cells #[.bool false, .slice none 0 0] 50))) := Lib.hid ((Ext.refl _ _).alloc _)
            clear ha
            generalize rdI f.args j = aj at *
            go_upto_region 24 with fail
            have n0 : (wr.alloc (.cells #[.bool false, .slice none 0 0] 50)).cell? ⟨wr.heap.size, 0, none⟩ = some (.bool false) := by go_simp
            have n1 : (wr.alloc (.cells #[.bool false, .slice none 0 0] 50)).cell? ⟨wr.heap.size, 1, none⟩ = some (.slice none 0 0) := by go_simp
            replace hown := hown.ext HE1.out
            have hwe5 := Nat.le_trans hwe HE1.out.size
            have HEJ5 := Lib.hid (HEJ.out.trans HE1.out)
            clear i0 li
            generalize wr.heap.size = rg at *
            generalize wr.alloc (.cells #[.bool false, .slice none 0 0] 50) = w5 at *
            go_wp2_with (at_builtin; refine wpl_append1 kZ (by decide) rfl (.tmp 111) (.tmp 113) 38 rfl wE.heap.size 50 _ 32 Tryz.underlying38 info_Z rfl O2 vv rfl zs hown rfl ⟨false, []⟩ [_, _] (kZ_iff.2 ⟨_, rfl, Kd.nil_mk⟩) (HOLD2.out.ext HEJ5.out) (by omega) (by omega) hwe5 ?_; intro v15 w15 hO15 hE15 hat15; (have HO15 := Lib.hid hO15); (have HE15 : Hid (Ext NoB wE w15) := Lib.hid (HEJ5.out.then hE15 (fun i hi h => by have := (hown.base h).1; omega))); clear hO15 hE15 hat15)
            exact ⟨⟨j + 1, _, _, by omega, by go_num, rfl, by rw [HEZ.out] at HZS2; exact HZS2, HO15, HE15⟩, by simp [intOf]; omega⟩
        · obtain rfl : j = f.args.length := by omega
          have hzs : zs = elseArgs f := by rw [HZS.out, List.take_of_length_le (by rw [elseArgs_len]; exact Nat.le_refl _)]
          subst hzs
          clear hlt hj HZS
          generalize wr = wA at *
          have HEA := Lib.hid (HEu.out.trans HEJ.out)
          have hea : wE.heap.size ≤ wA.heap.size := HEJ.out.size
          have hue : u7.heap.size ≤ wE.heap.size := HEu.out.size
          have HSZA : Hid (wE.heap.size ≤ wA.heap.size ∧ u7.heap.size ≤ wE.heap.size) := Lib.hid ⟨hea, hue⟩
          clear hea hue
          obtain ⟨Va, va, hvv, -, -⟩ := HZO.out.shape
          rw [elseArgs_len] at hvv
          subst hvv
          have HVAN : Hid (∀ g, (Value.slice Va f.args.length va).ownBlock = some g → wE.heap.size ≤ g ∧ g < wA.heap.size) := Lib.hid (fun g hg => HZO.out.base hg)
          have HARGS : Hid (kZs.one wA O2 (elseArgs f) (.slice Va f.args.length va)) := Lib.hid (HZO.out.slice (pos := (by decide)) (fun b hb => HOLD2.out b hb))
          obtain ⟨t, ht⟩ := at_some hklt
          obtain ⟨_, _, hv, _, _, hr⟩ := Kd.one_slice HTB.out
          injection hv with hv1 hv2 hv3
          subst hv1
          clear hv2 hv3
          obtain ⟨tb, tof, hT, _, hrow⟩ := hr (ne_nil_of_lt hklt)
          subst hT
          obtain ⟨Tr, trc, Te, tec, ⟨y0, y1, y2⟩, hrows, hels⟩ := row_table' hrow ht
          have HTT := Lib.hid ht
          have HROWS := Lib.hid hrows
          have HELS := Lib.hid hels
          have hrl : t.rows.length ≤ 20 := (HMLL.out.2.2 t (List.mem_of_getElem? ht)).1
          have HTY : Hid (wA.cell? ⟨tb, tof + kk * 3, none⟩ = some (.slice Tr t.rows.length trc) ∧ wA.cell? ⟨tb, tof + kk * 3 + 1, none⟩ = some (.bool t.els.neg) ∧ wA.cell? ⟨tb, tof + kk * 3 + 2, none⟩ = some (.slice Te t.els.digs.length tec)) := Lib.hid ⟨HEA.out.cell y0 id, HEA.out.cell y1 id, HEA.out.cell y2 id⟩
          have HFT : Hid (∀ r ∈ t.rows, r.args.length = f.args.length) := Lib.hid (by
            have h := funs_at HFL.out.2.2.2 hkd
            rw [funB, tabAt_eq ht, funAt_eq HFF.out] at h
            exact fun r hr => (rowB_iff.1 ((fitsB_iff.1 h).1 r hr)).1)
          clear hr hrow hrows hels ht y0 y1 y2 HZO
          obtain ⟨m0, m1⟩ := HBM7.out.ext HEA.out (fun h => h)
          have lm := cell_lt m0
          have y0 := HTY.out.1
          have ly := cell_lt y0
          have jb1 : (kk : Int) < (m.funs.length : Int) := by omega
          go_wp2_with fail
          clear m0 m1 lm y0 ly jb1
          go_loopw [15, 123] (fun fv i wr => ∃ j : Nat, j ≤ t.rows.length ∧ i = .int .i64 j ∧ fv = .bool (rowsHave (elseArgs f) t.rows j) ∧ Hid (Ext NoB wA wr)) (fun _ i _ => t.rows.length - (intOf i).toNat)
          case atStart => exact ⟨0, Nat.zero_le _, rfl, rfl, Lib.hid (Ext.refl _ _)⟩
          case round =>
            obtain ⟨j, hj, rfl, rfl, HEB⟩ := hrel
            have HEr := Lib.hid (HEA.out.trans HEB.out)
            by_cases hlt : j < t.rows.length
            · obtain ⟨r, hr'⟩ := at_some hlt
              obtain ⟨_, _, hv, _, _, hr⟩ := Kd.one_slice (kRows.oneExt HROWS.out HEr.out.no)
              injection hv with hv1 hv2 hv3
              subst hv1
              clear hv2 hv3
              obtain ⟨pb, po, hA, _, hrow⟩ := hr (ne_nil_of_lt hlt)
              subst hA
              obtain ⟨Pa, pa, Pv, pv, ⟨s0, s1, s2⟩, hargs, _⟩ := row_row hrow hr'
              have ls := cell_lt s0
              have HRL : Hid (r.args.length = f.args.length) := Lib.hid (HFT.out r (List.mem_of_getElem? hr'))
              have HRH : Hid (rowsHave (elseArgs f) t.rows (j + 1) = (rowsHave (elseArgs f) t.rows j || eqTo r.args (elseArgs f) f.args.length)) := Lib.hid (by rw [rowsHave_succ hr', ← elseArgs_len f, eqTo_all (by rw [elseArgs_len]; exact HRL.out)])
              have HE1 : Hid (Ext NoB wr (wr.alloc (.cells #[.slice Pa r.args.length pa, .bool r.value.neg, .slice Pv r.value.digs.length pv] 60))) := Lib.hid ((Ext.refl _ _).alloc _)
              have n0 : (wr.alloc (.cells #[.slice Pa r.args.length pa, .bool r.value.neg, .slice Pv r.value.digs.length pv] 60)).cell? ⟨wr.heap.size, 0, none⟩ = some (.slice Pa r.args.length pa) := by go_simp
              have HN0 := Lib.hid n0
              have HARG := Lib.hid hargs
              have jb2 : (j : Int) < (t.rows.length : Int) := by omega
              clear n0 hr hrow hargs hr'
              go_wp2_with fail
              clear s0 s1 s2 ls jb2
              generalize wr.heap.size = rg at *
              generalize wr.alloc (.cells #[.slice Pa r.args.length pa, .bool r.value.neg, .slice Pv r.value.digs.length pv] 60) = wB at *
              have HEB2 := Lib.hid (HEB.out.trans HE1.out)
              have HARGB := Lib.hid (kZs.oneExt HARG.out HE1.out.no)
              clear HARG HEr HE1 HEB
              go_loopw [18, 129] (fun sv i wr => ∃ q : Nat, q ≤ f.args.length ∧ i = .int .i64 q ∧ sv = .bool (eqTo r.args (elseArgs f) q) ∧ Hid (Ext NoB wB wr)) (fun _ i _ => f.args.length - (intOf i).toNat)
              case atStart => exact ⟨0, Nat.zero_le _, rfl, rfl, Lib.hid (Ext.refl _ _)⟩
              case round =>
                obtain ⟨q, hq, rfl, rfl, HEC⟩ := hrel
                by_cases hql : q < f.args.length
                · cases hsm : eqTo r.args (elseArgs f) q with
                  | false =>
                    have HS2 : Hid (eqTo r.args (elseArgs f) (q + 1) = false) := Lib.hid (by rw [eqTo, hsm]; rfl)
                    clear hsm
                    go_wp2_with fail
                    go_quiet (fail)
                    go_wp2_with fail
                    exact ⟨⟨q + 1, by omega, by go_num, by rw [HS2.out], Lib.hid (HEC.out.drewN _)⟩, by simp [intOf]; omega⟩
                  | true =>
                    have hqr : q < r.args.length := by have := HRL.out; omega
                    obtain ⟨x, hx⟩ := at_some hqr
                    obtain ⟨y, hy⟩ : ∃ y, (elseArgs f)[q]? = some y := ⟨_, elseArgs_at hql⟩
                    have hqe : q < (elseArgs f).length := by rw [elseArgs_len]; exact hql
                    have HS2 : Hid (eqTo r.args (elseArgs f) (q + 1) = decide (x = y)) := Lib.hid (by rw [eqTo, hsm, atZ_eq hx, atZ_eq hy]; rfl)
                    obtain ⟨_, _, hv, _, _, hr⟩ := Kd.one_slice (kZs.oneExt HARGB.out HEC.out.no)
                    injection hv with hv1 hv2 hv3
                    subst hv1
                    clear hv2 hv3
                    obtain ⟨ab, ao, hA, _, hrow⟩ := hr (ne_nil_of_lt hqr)
                    subst hA
                    obtain ⟨Xa, xa, ⟨a0, a1⟩, had⟩ := row_z hrow hx
                    obtain ⟨_, _, hv, _, _, hr⟩ := Kd.one_slice (kZs.oneExt (kZs.oneKeep HARGS.out (Ext.refl _ _) (O' := O) (fun b _ h => by rw [HO2E.out]; exact .inl (.inl (.inl h)))) (HEB2.out.trans HEC.out).no)
                    injection hv with hv1 hv2 hv3
                    subst hv1
                    clear hv2 hv3
                    obtain ⟨bb, bo, hA, _, hrow⟩ := hr (ne_nil_of_lt hqe)
                    subst hA
                    obtain ⟨Ya, ya, ⟨b0, b1⟩, hbd⟩ := row_z hrow hy
                    have HZA := Lib.hid (z_agg (kDigs.oneExt had (Ext.refl NoB wr).drew.no))
                    have HZB := Lib.hid (z_agg (kDigs.oneExt hbd (Ext.refl NoB wr).drew.no))
                    have HST : Hid (wr.drew.cell? ⟨rg, 0, none⟩ = some (.slice (some ⟨ab, ao, none⟩) r.args.length pa) ∧ wr.drew.cell? ⟨ab, ao + q * 2, none⟩ = some (.bool x.neg) ∧ wr.drew.cell? ⟨ab, ao + q * 2 + 1, none⟩ = some (.slice Xa x.digs.length xa) ∧ wr.drew.cell? ⟨bb, bo + q * 2, none⟩ = some (.bool y.neg) ∧ wr.drew.cell? ⟨bb, bo + q * 2 + 1, none⟩ = some (.slice Ya y.digs.length ya)) := Lib.hid ⟨HEC.out.cell HN0.out id, a0, a1, b0, b1⟩
                    have jq1 : (q : Int) < (r.args.length : Int) := by omega
                    have jq2 : (q : Int) < (f.args.length : Int) := by omega
                    clear hr hrow had hbd hx hy a0 a1 b0 b1 hsm
                    go_wp2_with fail
                    refine wpM_begin (fun W => W.cell? ⟨rg, 0, none⟩ = some (.slice (some ⟨ab, ao, none⟩) r.args.length pa) ∧ W.cell? ⟨ab, ao + q * 2, none⟩ = some (.bool x.neg) ∧ W.cell? ⟨ab, ao + q * 2 + 1, none⟩ = some (.slice Xa x.digs.length xa) ∧ W.cell? ⟨bb, bo + q * 2, none⟩ = some (.bool y.neg) ∧ W.cell? ⟨bb, bo + q * 2 + 1, none⟩ = some (.slice Ya y.digs.length ya)) [11] [0, 1, 2, 3, 4, 5, 6, 7, 8, 9, 10] (by kernel_rfl) (by kernel_rfl) (HST.out) (fun hS0 hA => ?_)
                    refine wpM_free 0 rfl (by kernel_rfl) rfl (by intro w; go_simp; try rfl) ?_; (try simp only [Act.put, List.setIfInBounds_toArray, List.set_cons_zero, List.set_cons_succ])
                    refine wpM_free 1 rfl (by kernel_rfl) rfl (by intro w; go_simp; try rfl) ?_; (try simp only [Act.put, List.setIfInBounds_toArray, List.set_cons_zero, List.set_cons_succ])
                    refine wpM_free 2 rfl (by kernel_rfl) (by kernel_rfl) (by intro w; go_simp; try rfl) ?_; (try simp only [Act.put, List.setIfInBounds_toArray, List.set_cons_zero, List.set_cons_succ])
                    refine wpM_take 3 hA hS0 rfl (by kernel_rfl) (by kernel_rfl) (by intro w hs; (try dsimp only at hs); go_simp; try rfl) ?_; (try simp only [Act.put, List.setIfInBounds_toArray, List.set_cons_zero, List.set_cons_succ])
                    refine wpM_free 4 rfl (by kernel_rfl) (by kernel_rfl) (by intro w; go_simp; try rfl) ?_; (try simp only [Act.put, List.setIfInBounds_toArray, List.set_cons_zero, List.set_cons_succ])
                    refine wpM_free 5 rfl (by kernel_rfl) (by kernel_rfl) (by intro w; go_simp; try rfl) ?_; (try simp only [Act.put, List.setIfInBounds_toArray, List.set_cons_zero, List.set_cons_succ])
                    refine wpM_take 6 hA hS0 rfl (by kernel_rfl) (by kernel_rfl) (by intro w hs; (try dsimp only at hs); go_simp; try rfl) ?_; (try simp only [Act.put, List.setIfInBounds_toArray, List.set_cons_zero, List.set_cons_succ])
                    refine wpM_free 7 rfl (by kernel_rfl) (by kernel_rfl) (by intro w; go_simp; try rfl) ?_; (try simp only [Act.put, List.setIfInBounds_toArray, List.set_cons_zero, List.set_cons_succ])
                    refine wpM_free 8 rfl (by kernel_rfl) (by kernel_rfl) (by intro w; go_simp; try rfl) ?_; (try simp only [Act.put, List.setIfInBounds_toArray, List.set_cons_zero, List.set_cons_succ])
                    refine wpM_free 9 rfl (by kernel_rfl) (by kernel_rfl) (by intro w; go_simp; try rfl) ?_; (try simp only [Act.put, List.setIfInBounds_toArray, List.set_cons_zero, List.set_cons_succ])
                    refine wpM_take 10 hA hS0 rfl (by kernel_rfl) (by kernel_rfl) (by intro w hs; (try dsimp only at hs); go_simp; try rfl) ?_; (try simp only [Act.put, List.setIfInBounds_toArray, List.set_cons_zero, List.set_cons_succ])
                    refine wpM_last 11 rfl (by kernel_rfl) (by decide) (fun K hK => ?_)
                    go_simp
                    refine (c_zSame _ _ x y _ O HZA.out HZB.out).mono ?_
                    rintro e w20 ⟨rfl, hq5⟩
                    have HE5 := Lib.hid (HEC.out.trans ((Ext.refl NoB wr).drew.trans hq5))
                    rw [← HS2.out]
                    clear hq5
                    refine hK.out _ _ ?_
                    clear hK K; (try simp only [Act.put, List.setIfInBounds_toArray, List.set_cons_zero, List.set_cons_succ])
                    refine wpM_free 12 rfl (by kernel_rfl) rfl (by intro w; go_simp; try rfl) ?_; (try simp only [Act.put, List.setIfInBounds_toArray, List.set_cons_zero, List.set_cons_succ])
                    refine wpM_free 13 rfl (by kernel_rfl) rfl (by intro w; go_simp; try rfl) ?_; (try simp only [Act.put, List.setIfInBounds_toArray, List.set_cons_zero, List.set_cons_succ])
                    refine wpM_done (by kernel_rfl) ?_
                    clear hS0
                    go_wp2_with fail
                    exact ⟨⟨q + 1, by omega, by go_num, rfl, HE5⟩, by simp [intOf]; omega⟩
                · obtain rfl : q = f.args.length := by omega
                  clear hql hq
                  have HEB3 := Lib.hid (HEB2.out.trans HEC.out)
                  cases hrh : rowsHave (elseArgs f) t.rows j with
                  | true =>
                    have HR3 : Hid (rowsHave (elseArgs f) t.rows (j + 1) = true) := Lib.hid (by rw [HRH.out, hrh]; rfl)
                    clear hrh
                    go_wp2_with fail
                    exact ⟨⟨j + 1, by omega, by go_num, by rw [HR3.out], HEB3⟩, by simp [intOf]; omega⟩
                  | false =>
                    have HR3 : Hid (rowsHave (elseArgs f) t.rows (j + 1) = eqTo r.args (elseArgs f) f.args.length) := Lib.hid (by rw [HRH.out, hrh]; rfl)
                    clear hrh
                    go_wp2_with fail
                    exact ⟨⟨j + 1, by omega, by go_num, by rw [HR3.out], HEB3⟩, by simp [intOf]; omega⟩
            · obtain rfl : j = t.rows.length := by omega
              clear hlt hj
              generalize wr = wD at *
              have HED := Lib.hid (HEA.out.trans HEB.out)
              have HWD : Hid (wA.heap.size ≤ wD.heap.size) := Lib.hid HEB.out.size
              go_upto_region 38 with fail
              go_cut [157] from 151 to 157 (fun c wx => c = .bool (decide (0 < f.args.length) && !(rowsHave (elseArgs f) t.rows t.rows.length)) ∧ wx = wD)
              case first =>
                by_cases h0 : 0 < f.args.length
                · have q0 : decide ((0 : Int) < (f.args.length : Int)) = true := by rw [decide_eq_true_eq]; omega
                  have q0' : decide (0 < f.args.length) = true := decide_eq_true h0
                  have HBB : Hid ((decide (0 < f.args.length) && !(rowsHave (elseArgs f) t.rows t.rows.length)) = !(rowsHave (elseArgs f) t.rows t.rows.length)) := Lib.hid (by rw [q0']; rfl)
                  go_wp2_with fail
                  go_meet
                  exact ⟨by rw [HBB.out], rfl⟩
                · have q0 : decide ((0 : Int) < (f.args.length : Int)) = false := by rw [decide_eq_false_iff_not]; omega
                  have q0' : decide (0 < f.args.length) = false := decide_eq_false h0
                  have HBB : Hid ((decide (0 < f.args.length) && !(rowsHave (elseArgs f) t.rows t.rows.length)) = false) := Lib.hid (by rw [q0']; rfl)
                  go_wp2_with fail
                  go_meet
                  exact ⟨by rw [HBB.out], rfl⟩
              case rest =>
              obtain ⟨rfl, rfl⟩ := hcut
              generalize wc = wD at *
              obtain ⟨bb, hbe⟩ : ∃ bb, (decide (0 < f.args.length) && !(rowsHave (elseArgs f) t.rows t.rows.length)) = bb := ⟨_, rfl⟩
              rw [hbe]
              have HBE := Lib.hid hbe
              clear hbe
              go_upto_if 157 with fail
              go_cut [] from 157 to 178 (fun wx => ∃ t', (t' = t ∨ (t' = elseTab f t ∧ NoRow f t)) ∧ Hid (Own wx wx8.heap.size 58 kTable (Plus (Plus O gx) sg) (.slice (some ⟨tg, 0, none⟩) m.funs.length c9) (m.funs.set kk t')) ∧ Hid (Ext (fun b => b = tg) wE wx))
              case first =>
                cases bb with
                | false =>
                  go_wp2_with fail
                  go_meet
                  exact ⟨t, .inl rfl, Lib.hid (by rw [set_same HTT.out]; exact HTO.out.ext (HEJ.out.trans HEB.out)), Lib.hid (HEJ.out.trans HEB.out).no⟩
                | true =>
                  have HNR : Hid (NoRow f t) := Lib.hid (noRow_of (by
                    have h := HBE.out
                    rw [Bool.and_eq_true] at h
                    simpa using h.2))
                  have HJB := Lib.hid (HEJ.out.trans HEB.out)
                  obtain ⟨m0, m1⟩ := HBM7.out.ext HED.out (fun h => h)
                  obtain ⟨x0, x1⟩ := HXR.out.ext HJB.out (fun h => h)
                  have HST : Hid (wD.drew.cell? ⟨gx, 1, none⟩ = some (.slice (some ⟨tg, 0, none⟩) m.funs.length c9) ∧ wD.drew.cell? ⟨gm, 1, none⟩ = some (.slice (some ⟨tb, tof, none⟩) m.funs.length c2) ∧ wD.drew.cell? ⟨tb, tof + kk * 3, none⟩ = some (.slice Tr t.rows.length trc) ∧ wD.drew.cell? ⟨tb, tof + kk * 3 + 1, none⟩ = some (.bool t.els.neg) ∧ wD.drew.cell? ⟨tb, tof + kk * 3 + 2, none⟩ = some (.slice Te t.els.digs.length tec)) := Lib.hid ⟨x1, m1, HEB.out.cell HTY.out.1 id, HEB.out.cell HTY.out.2.1 id, HEB.out.cell HTY.out.2.2 id⟩
                  have HTD := Lib.hid ((HTO.out.ext HJB.out).ext (Ext.refl NoB wD).drew)
                  have HLT : Hid (tg < wD.drew.heap.size) := Lib.hid (HTD.out.base (g := tg) rfl).2
                  have hba : wE.heap.size ≤ wD.drew.heap.size := Nat.le_trans HSZA.out.1 HWD.out
                  have HLIT : Hid (Own (wD.drew.alloc (.cells #[.slice Va f.args.length va, .bool t.els.neg, .slice Te t.els.digs.length tec] 60)) wE.heap.size 60 kRow O2 (.slice (some ⟨wD.heap.size, 0, none⟩) 1 1) [⟨elseArgs f, t.els⟩]) := Lib.hid (Own.lit1 (cs := [_, _, _]) wD.heap.size rfl hba (kRow_iff.2 ⟨_, _, rfl, kZs.oneKeep HARGS.out (HEB.out.trans (Ext.refl NoB wD).drew).no (fun b hb h => h.elim id (fun e => by
                    have e' : some wD.heap.size = some b := e
                    injection e' with e'
                    have := HWD.out
                    omega)), kDigs.oneKeep HELS.out (HED.out.trans (Ext.refl NoB wD).drew).no (fun b hb h => h.elim (HLOW.out b hb) (fun e => by
                    have e' : some wD.heap.size = some b := e
                    injection e' with e'
                    have := HWD.out
                    have := HSZA.out
                    omega))⟩))
                  have HSRC : Hid (kRows.one (wD.drew.alloc (.cells #[.slice Va f.args.length va, .bool t.els.neg, .slice Te t.els.digs.length tec] 60)) (PlusV O2 (.slice (some ⟨wD.heap.size, 0, none⟩) 1 1)) t.rows (.slice Tr t.rows.length trc)) := Lib.hid (kRows.oneKeep HROWS.out ((HED.out.trans (Ext.refl NoB wD).drew).alloc _).no (fun b hb h => h.elim (HLOW.out b hb) (fun e => by
                    have e' : some wD.heap.size = some b := e
                    injection e' with e'
                    have := HWD.out
                    have := HSZA.out
                    omega)))
                  have HLB : Hid (wE.heap.size ≤ (wD.drew.alloc (.cells #[.slice Va f.args.length va, .bool t.els.neg, .slice Te t.els.digs.length tec] 60)).heap.size) := Lib.hid (Nat.le_trans hba ((Ext.refl NoB wD.drew).alloc _).size)
                  have jb1 : (kk : Int) < (m.funs.length : Int) := by omega
                  clear hba m0 m1 x0 x1
                  go_upto_region 39 with fail
                  refine wpM_begin (fun W => W.cell? ⟨gx, 1, none⟩ = some (.slice (some ⟨tg, 0, none⟩) m.funs.length c9) ∧ W.cell? ⟨gm, 1, none⟩ = some (.slice (some ⟨tb, tof, none⟩) m.funs.length c2) ∧ W.cell? ⟨tb, tof + kk * 3, none⟩ = some (.slice Tr t.rows.length trc) ∧ W.cell? ⟨tb, tof + kk * 3 + 1, none⟩ = some (.bool t.els.neg) ∧ W.cell? ⟨tb, tof + kk * 3 + 2, none⟩ = some (.slice Te t.els.digs.length tec)) [21] [0, 1, 2, 3, 4, 5, 6, 7, 8, 9, 10, 11, 12, 13, 14, 15, 16, 17, 18, 19, 20] (by kernel_rfl) (by kernel_rfl) (HST.out) (fun hS0 hA => ?_)
                  refine wpM_free 0 rfl (by kernel_rfl) rfl (by intro w; go_simp; try rfl) ?_; (try simp only [Act.put, List.setIfInBounds_toArray, List.set_cons_zero, List.set_cons_succ])
                  refine wpM_take 1 hA hS0 rfl (by kernel_rfl) rfl (by intro w hs; (try dsimp only at hs); go_simp; try rfl) ?_; (try simp only [Act.put, List.setIfInBounds_toArray, List.set_cons_zero, List.set_cons_succ])
                  refine wpM_free 2 rfl (by kernel_rfl) rfl (by intro w; go_simp; try rfl) ?_; (try simp only [Act.put, List.setIfInBounds_toArray, List.set_cons_zero, List.set_cons_succ])
                  refine wpM_free 3 rfl (by kernel_rfl) rfl (by intro w; go_simp; try rfl) ?_; (try simp only [Act.put, List.setIfInBounds_toArray, List.set_cons_zero, List.set_cons_succ])
                  refine wpM_free 4 rfl (by kernel_rfl) rfl (by intro w; go_simp; try rfl) ?_; (try simp only [Act.put, List.setIfInBounds_toArray, List.set_cons_zero, List.set_cons_succ])
                  refine wpM_take 5 hA hS0 rfl (by kernel_rfl) rfl (by intro w hs; (try dsimp only at hs); go_simp; try rfl) ?_; (try simp only [Act.put, List.setIfInBounds_toArray, List.set_cons_zero, List.set_cons_succ])
                  refine wpM_free 6 rfl (by kernel_rfl) rfl (by intro w; go_simp; try rfl) ?_; (try simp only [Act.put, List.setIfInBounds_toArray, List.set_cons_zero, List.set_cons_succ])
                  refine wpM_free 7 rfl (by kernel_rfl) rfl (by intro w; go_simp; try rfl) ?_; (try simp only [Act.put, List.setIfInBounds_toArray, List.set_cons_zero, List.set_cons_succ])
                  refine wpM_free 8 rfl (by kernel_rfl) rfl (by intro w; go_simp; try rfl) ?_; (try simp only [Act.put, List.setIfInBounds_toArray, List.set_cons_zero, List.set_cons_succ])
                  refine wpM_take 9 hA hS0 rfl (by kernel_rfl) rfl (by intro w hs; (try dsimp only at hs); go_simp; try rfl) ?_; (try simp only [Act.put, List.setIfInBounds_toArray, List.set_cons_zero, List.set_cons_succ])
                  refine wpM_free 10 rfl (by kernel_rfl) rfl (by intro w; go_simp; try rfl) ?_; (try simp only [Act.put, List.setIfInBounds_toArray, List.set_cons_zero, List.set_cons_succ])
                  refine wpM_free 12 rfl (by kernel_rfl) rfl (by intro w; go_simp; try rfl) ?_; (try simp only [Act.put, List.setIfInBounds_toArray, List.set_cons_zero, List.set_cons_succ])
                  refine wpM_take 13 hA hS0 rfl (by kernel_rfl) rfl (by intro w hs; (try dsimp only at hs); go_simp; try rfl) ?_; (try simp only [Act.put, List.setIfInBounds_toArray, List.set_cons_zero, List.set_cons_succ])
                  refine wpM_free 14 rfl (by kernel_rfl) rfl (by intro w; go_simp; try rfl) ?_; (try simp only [Act.put, List.setIfInBounds_toArray, List.set_cons_zero, List.set_cons_succ])
                  refine wpM_free 15 rfl (by kernel_rfl) rfl (by intro w; go_simp; try rfl) ?_; (try simp only [Act.put, List.setIfInBounds_toArray, List.set_cons_zero, List.set_cons_succ])
                  refine wpM_free 16 rfl (by kernel_rfl) rfl (by intro w; go_simp; try rfl) ?_; (try simp only [Act.put, List.setIfInBounds_toArray, List.set_cons_zero, List.set_cons_succ])
                  refine wpM_take 17 hA hS0 rfl (by kernel_rfl) rfl (by intro w hs; (try dsimp only at hs); go_simp; try rfl) ?_; (try simp only [Act.put, List.setIfInBounds_toArray, List.set_cons_zero, List.set_cons_succ])
                  refine wpM_only 11 rfl (by kernel_rfl) (fun K hK => ?_)
                  go_simp
                  refine hK.out _ _ ?_ (fun hS1 => ?_)
                  · exact ⟨((Ext.refl NoB _).alloc _).cell hS0.1 id, ((Ext.refl NoB _).alloc _).cell hS0.2.1 id, ((Ext.refl NoB _).alloc _).cell hS0.2.2.1 id, ((Ext.refl NoB _).alloc _).cell hS0.2.2.2.1 id, ((Ext.refl NoB _).alloc _).cell hS0.2.2.2.2 id⟩
                  clear hS0 hK K; (try simp only [Act.put, List.setIfInBounds_toArray, List.set_cons_zero, List.set_cons_succ])
                  refine wpM_only 18 rfl (by kernel_rfl) (fun K hK => ?_)
                  refine step_append kRow (by decide) rfl (.tmp 169) (.tmp 175) 56 rfl wE.heap.size 60 _ 56 Tryz.underlying56 info_Row rfl O2 (.slice (some ⟨wD.heap.size, 0, none⟩) 1 1) rfl [⟨elseArgs f, t.els⟩] HLIT.out _ rfl t.rows HSRC.out (by omega) (by simp only [List.length_singleton]; omega) HLB.out ?_
                  intro v2 w2 hO2 hE2 hat2
                  have HO3 := Lib.hid hO2
                  have HE3 : Hid (Ext NoB wD.drew w2) := Lib.hid (((Ext.refl NoB wD.drew).alloc _).then hE2 (fun i hi h => by
                    have h' : some wD.heap.size = some i := h
                    injection h' with h'
                    have hi' : i < wD.heap.size := hi
                    omega))
                  obtain ⟨Ty, cy, hvy, -, -⟩ := hO2.shape
                  subst hvy
                  have HT2 := Lib.hid (HTD.out.ext HE3.out)
                  obtain ⟨tcs, htcs, htc⟩ := HT2.out.at_ HTT.out
                  obtain ⟨tv1, tv2, rfl, _, _⟩ := kTable_iff.1 htcs
                  have c2' : w2.cell? ⟨tg, kk * 3, none⟩ = some tv1 := htc 0 _ rfl
                  have f2 : w2.frozen? ⟨tg, kk * 3, none⟩ = false := HT2.out.frozenAt _
                  have l2 := cell_lt c2'
                  clear hO2 hE2 hat2 htcs htc
                  refine hK.out _ _ ?_ (fun hS2 => ?_)
                  · exact ⟨HE3.out.cell HST.out.1 id, HE3.out.cell HST.out.2.1 id, HE3.out.cell HST.out.2.2.1 id, HE3.out.cell HST.out.2.2.2.1 id, HE3.out.cell HST.out.2.2.2.2 id⟩
                  clear hS1 hK K; (try simp only [Act.put, List.setIfInBounds_toArray, List.set_cons_zero, List.set_cons_succ])
                  refine wpM_free 19 rfl (by kernel_rfl) rfl (by intro w; go_simp; try rfl) ?_; (try simp only [Act.put, List.setIfInBounds_toArray, List.set_cons_zero, List.set_cons_succ])
                  refine wpM_free 20 rfl (by kernel_rfl) rfl (by intro w; go_simp; try rfl) ?_; (try simp only [Act.put, List.setIfInBounds_toArray, List.set_cons_zero, List.set_cons_succ])
                  refine wpM_last 21 rfl (by kernel_rfl) (by decide) (fun K hK => ?_)
                  go_simp
                  refine hK.out _ _ ?_
                  clear hK K; (try simp only [Act.put, List.setIfInBounds_toArray, List.set_cons_zero, List.set_cons_succ])
                  refine wpM_done (by kernel_rfl) ?_
                  clear hS2
                  have HYR : Hid (kRows.one w2 (PlusV (Plus (Plus O gx) sg) (.slice (some ⟨tg, 0, none⟩) m.funs.length c9)) ([⟨elseArgs f, t.els⟩] ++ t.rows) (.slice Ty ([(⟨elseArgs f, t.els⟩ : TRow)] ++ t.rows).length cy)) := Lib.hid (by
                    have h := HO3.out.slice (pos := (by decide)) (fun b hb => HOLD2.out b hb)
                    rwa [HO2E.out] at h)
                  have hset := HT2.out.setAt (i := kk) (j := 0) (x := t) (y := elseTab f t) (u := .slice Ty ([(⟨elseArgs f, t.els⟩ : TRow)] ++ t.rows).length cy) HTT.out (by decide) (fun cs h => by
                    obtain ⟨v1, v2, rfl, h1, h2⟩ := kTable_iff.1 h
                    exact kTable_iff.2 ⟨_, v2, rfl, HYR.out, h2⟩)
                  have HSET := Lib.hid hset.1
                  have HSE2 := Lib.hid (((HJB.out.trans (Ext.refl NoB wD).drew).trans HE3.out).no.setO (O := fun b => b = tg) (p := ⟨tg, kk * 3, none⟩) rfl (.slice Ty ([(⟨elseArgs f, t.els⟩ : TRow)] ++ t.rows).length cy))
                  clear hset c2' f2 l2
                  try simp only [Act.put, List.setIfInBounds_toArray, List.set_cons_zero, List.set_cons_succ, List.getElem_toArray, List.getElem_cons_zero, List.getElem_cons_succ]
                  go_wp2_with fail
                  go_meet
                  exact ⟨_, .inr ⟨rfl, HNR.out⟩, HSET, HSE2⟩
              case rest =>
              obtain ⟨t', hcase, HSET, HEG⟩ := hcut
              have HCASE := Lib.hid hcase
              clear hcase
              have HE17 : Hid (Ext NoB u7 wc) := Lib.hid (HEu.out.then HEG.out (fun i hi h => by have := HSZS.out; have h' : i = tg := h; omega))
              have HX17 : Hid (ZB gx (.slice (some ⟨sg, 0, none⟩) m.sizes.length c11) (.slice (some ⟨tg, 0, none⟩) m.funs.length c9) wc) := Lib.hid (HXR.out.ext HEG.out (fun e => by have := HSZS.out; have h' : gx = tg := e; omega))
              have HYC : Hid (Own wc w10.heap.size 3 kInt O (.slice (some ⟨sg, 0, none⟩) m.sizes.length c11) ys) := Lib.hid (((HYO.out.anyO (O' := fun b => b = tg)).keep HEG.out (fun b hb e => ⟨e, fun e2 => by
                have e2' : some sg = some b := e2
                injection e2' with e2'
                have e' : b = tg := e
                have h1 := HSZS.out
                have h2 := HSG.out
                omega⟩)).anyO)
              obtain ⟨m0, m1⟩ := HBM7.out.ext HE17.out (fun h => h)
              go_wp2_with fail
              refine (c_All d (HSC.out.ext HE17.out) m _ (kModel.aggExt HMO.out HE17.out.no) HEV.out).mono ?_
              rintro e w18 ⟨va', rfl, hva, hq⟩
              have HVA := Lib.hid hva
              have HE18 := Lib.hid (HE17.out.trans hq)
              have HQ18 := Lib.hid hq
              obtain ⟨x0, x1⟩ := HX17.out.ext hq (fun h => h)
              clear hva hq m0 m1
              go_wp2_with fail
              clear x0 x1
              have HMX : Hid (kModel.agg w18 O ⟨ys, m.funs.set kk t'⟩ (.agg #[.slice (some ⟨sg, 0, none⟩) m.sizes.length c11, .slice (some ⟨tg, 0, none⟩) m.funs.length c9])) := Lib.hid ⟨[_, _], rfl, kModel_iff.2 ⟨_, _, rfl, kInts.oneExt (HYC.out.sliceN (fun g hg h => by
                have h' : some sg = some g := hg
                injection h' with h'
                have h1 := HOLD.out g h
                have h2 := HSG.out
                have h3 := HE10.out.size
                omega)) HQ18.out.no, kTables.oneExt ((HSET.out.turn (O' := O) (fun b _ h => .inl (.inl h))).sliceN (fun g hg h => by
                have h' : some tg = some g := hg
                injection h' with h'
                have := HOLD.out g h
                have := HSZS.out
                omega)) HQ18.out.no⟩⟩
              have HEV2 : Hid (EvOk d ⟨ys, m.funs.set kk t'⟩) := Lib.hid (else_ok HTT.out HFF.out HEV.out HU.out HCASE.out).1
              have HVV : Hid (valsTo d.terms ⟨ys, m.funs.set kk t'⟩ d.terms.length = valsTo d.terms m d.terms.length) := Lib.hid ((else_ok HTT.out HFF.out HEV.out HU.out HCASE.out).2 _).symm
              refine (c_All d (HSC.out.ext HE18.out) _ _ HMX.out HEV2.out).mono ?_
              rintro e w19 ⟨vb, rfl, hvb, hq⟩
              rw [HVV.out] at hvb
              have HVB := Lib.hid hvb
              have HVA2 := Lib.hid (kZs.oneExt HVA.out hq.no)
              have HE19 := Lib.hid (HE0.out.trans (HQ7.out.trans (HE18.out.trans hq)))
              obtain ⟨Va2, va2, rfl, _, hma, _⟩ := Kd.one_slice HVA.out
              obtain ⟨Vb, vb2, rfl, _, _, _⟩ := Kd.one_slice HVB.out
              have hvm : (valsTo d.terms m d.terms.length).length ≤ 9223372036854775807 := by unfold maxLen at hma; omega
              clear hvb hq hma HMX HEV2 HVV HVA HQ18 HX17 HSET HE17 HE18
              generalize valsTo d.terms m d.terms.length = vals at *
              go_wp2_with fail
              go_loopw [206] (fun i wr => ∃ k : Nat, k ≤ vals.length ∧ i = .int .i64 k ∧ Hid (Ext NoB w19 wr)) (fun i _ => vals.length - (intOf i).toNat)
              case atStart => exact ⟨0, Nat.zero_le _, rfl, Lib.hid (Ext.refl _ _)⟩
              case round =>
                obtain ⟨k, hk, rfl, HEL⟩ := hrel
                by_cases hlt : k < vals.length
                · obtain ⟨x, hx⟩ := at_some hlt
                  obtain ⟨_, _, hv, _, _, hr⟩ := Kd.one_slice (kZs.oneExt HVA2.out HEL.out.no)
                  injection hv with hv1 hv2 hv3
                  subst hv1
                  clear hv2 hv3
                  obtain ⟨ab, ao, hA, _, hrow⟩ := hr (ne_nil_of_lt hlt)
                  subst hA
                  obtain ⟨Xa, xa, ⟨a0, a1⟩, had⟩ := row_z hrow hx
                  obtain ⟨_, _, hv, _, _, hr⟩ := Kd.one_slice (kZs.oneExt HVB.out HEL.out.no)
                  injection hv with hv1 hv2 hv3
                  subst hv1
                  clear hv2 hv3
                  obtain ⟨bb, bo, hA, _, hrow⟩ := hr (ne_nil_of_lt hlt)
                  subst hA
                  obtain ⟨Xb, xb, ⟨b0, b1⟩, hbd⟩ := row_z hrow hx
                  have HZA := Lib.hid (z_agg (kDigs.oneExt had (Ext.refl NoB wr).drew.no))
                  have HZB := Lib.hid (z_agg (kDigs.oneExt hbd (Ext.refl NoB wr).drew.no))
                  have HST : Hid (wr.drew.cell? ⟨ab, ao + k * 2, none⟩ = some (.bool x.neg) ∧ wr.drew.cell? ⟨ab, ao + k * 2 + 1, none⟩ = some (.slice Xa x.digs.length xa) ∧ wr.drew.cell? ⟨bb, bo + k * 2, none⟩ = some (.bool x.neg) ∧ wr.drew.cell? ⟨bb, bo + k * 2 + 1, none⟩ = some (.slice Xb x.digs.length xb)) := Lib.hid ⟨a0, a1, b0, b1⟩
                  have jb1 : (k : Int) < (vals.length : Int) := by omega
                  clear hr hrow had hbd hx a0 a1 b0 b1
                  go_wp2_with fail
                  refine wpM_begin (fun W => W.cell? ⟨ab, ao + k * 2, none⟩ = some (.bool x.neg) ∧ W.cell? ⟨ab, ao + k * 2 + 1, none⟩ = some (.slice Xa x.digs.length xa) ∧ W.cell? ⟨bb, bo + k * 2, none⟩ = some (.bool x.neg) ∧ W.cell? ⟨bb, bo + k * 2 + 1, none⟩ = some (.slice Xb x.digs.length xb)) [8] [0, 1, 2, 3, 4, 5, 6, 7] (by kernel_rfl) (by kernel_rfl) (HST.out) (fun hS0 hA => ?_)
                  refine wpM_free 0 rfl (by kernel_rfl) rfl (by intro w; go_simp; try rfl) ?_; (try simp only [Act.put, List.setIfInBounds_toArray, List.set_cons_zero, List.set_cons_succ])
                  refine wpM_free 1 rfl (by kernel_rfl) rfl (by intro w; go_simp; try rfl) ?_; (try simp only [Act.put, List.setIfInBounds_toArray, List.set_cons_zero, List.set_cons_succ])
                  refine wpM_free 2 rfl (by kernel_rfl) rfl (by intro w; go_simp; try rfl) ?_; (try simp only [Act.put, List.setIfInBounds_toArray, List.set_cons_zero, List.set_cons_succ])
                  refine wpM_take 3 hA hS0 rfl (by kernel_rfl) rfl (by intro w hs; (try dsimp only at hs); go_simp; try rfl) ?_; (try simp only [Act.put, List.setIfInBounds_toArray, List.set_cons_zero, List.set_cons_succ])
                  refine wpM_free 4 rfl (by kernel_rfl) rfl (by intro w; go_simp; try rfl) ?_; (try simp only [Act.put, List.setIfInBounds_toArray, List.set_cons_zero, List.set_cons_succ])
                  refine wpM_free 5 rfl (by kernel_rfl) rfl (by intro w; go_simp; try rfl) ?_; (try simp only [Act.put, List.setIfInBounds_toArray, List.set_cons_zero, List.set_cons_succ])
                  refine wpM_free 6 rfl (by kernel_rfl) rfl (by intro w; go_simp; try rfl) ?_; (try simp only [Act.put, List.setIfInBounds_toArray, List.set_cons_zero, List.set_cons_succ])
                  refine wpM_take 7 hA hS0 rfl (by kernel_rfl) rfl (by intro w hs; (try dsimp only at hs); go_simp; try rfl) ?_; (try simp only [Act.put, List.setIfInBounds_toArray, List.set_cons_zero, List.set_cons_succ])
                  refine wpM_last 8 rfl (by kernel_rfl) (by decide) (fun K hK => ?_)
                  go_simp
                  refine (c_zSame _ _ x x _ O HZA.out HZB.out).mono ?_
                  rintro e w20 ⟨rfl, hq⟩
                  have HE20 := Lib.hid (HEL.out.trans ((Ext.refl NoB wr).drew.trans hq))
                  rw [decide_eq_true (rfl : x = x)]
                  clear hq
                  refine hK.out _ _ ?_
                  clear hK K; (try simp only [Act.put, List.setIfInBounds_toArray, List.set_cons_zero, List.set_cons_succ])
                  refine wpM_free 9 rfl (by kernel_rfl) rfl (by intro w; go_simp; try rfl) ?_; (try simp only [Act.put, List.setIfInBounds_toArray, List.set_cons_zero, List.set_cons_succ])
                  refine wpM_done (by kernel_rfl) ?_
                  clear hS0
                  go_wp2_with fail
                  exact ⟨⟨k + 1, by omega, by go_num, HE20⟩, by simp [intOf]; omega⟩
                · obtain rfl : k = vals.length := by omega
                  clear hlt
                  go_wp2_with fail
                  go_ret
                  exact ⟨rfl, HE19.out.trans HEL.out⟩
end
end Go.Proofs.YtfpmapbimhdafaaGreatDoor
