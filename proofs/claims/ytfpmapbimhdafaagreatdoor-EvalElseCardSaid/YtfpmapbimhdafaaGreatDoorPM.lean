/- Contracts: whether this may be all of a script, for the reference. -/
import Derived.Test.YtfpmapbimhdafaaGreatDoorPL
namespace Go.Proofs.YtfpmapbimhdafaaGreatDoor
open Go.RowKit
set_option linter.unusedVariables false
set_option linter.unusedSimpArgs false

/-- The arena while sorts are laid. -/
structure SrtSt (d : Dump) (k : Nat) (S : RSt) : Prop where
  len : S.sorts.length = max k 2
  none : S.funs = [] ∧ S.terms = [] ∧ S.ofs = []
  same : ∀ j, j < k → S.sorts[j]? = d.sorts[j]?
  bool : S.sorts[0]? = some ⟨nBool, []⟩
  int : S.sorts[1]? = some ⟨nInt, []⟩
  ok : ∀ (j : Nat) (s : Srt), 2 ≤ j → j < k → d.sorts[j]? = some s → ArgsOk j s.args ∧ ∀ (i : Nat) (x : Srt), i < j → d.sorts[i]? = some x → ¬ (x.name = s.name ∧ x.args = s.args)
theorem SrtSt.start (d : Dump) : SrtSt d 0 R0 := ⟨rfl, ⟨rfl, rfl, rfl⟩, fun j hj => by omega, rfl, rfl, fun j s h1 h2 => by omega⟩
theorem SrtSt.step {d : Dump} {k : Nat} {S S' : RSt} {s : Srt} {a c : Int} (h : SrtSt d k S) (hs : d.sorts[k]? = some s) (hr : SortRes S s.name s.args a c S') (ha : a = k) (hc : c = 0) : SrtSt d (k + 1) S' := by
  obtain ⟨hok, hcase⟩ := hr hc
  rcases hcase with ⟨i, s0, hi, h0, hn, hg, rfl⟩ | ⟨hi, hno, rfl⟩
  · obtain rfl : i = k := by omega
    have hlt := (List.getElem?_eq_some_iff.1 h0).1
    have hl := h.len
    have e : s0 = s := by cases s0; cases s; simp only at hn hg; rw [hn, hg]
    subst e
    refine ⟨by omega, h.none, fun j hj => ?_, h.bool, h.int, fun j t h2 hj ht => h.ok j t h2 (by omega) ht⟩
    rcases Nat.lt_or_ge j i with hji | hji
    · exact h.same j hji
    · obtain rfl : j = i := by omega
      rw [h0, hs]
  · have hl := h.len
    have hk : 2 ≤ k ∧ S.sorts.length = k := by omega
    refine ⟨by simp only [List.length_append, List.length_singleton]; omega, h.none, fun j hj => ?_, ?_, ?_, fun j t h2 hj ht => ?_⟩
    · rcases Nat.lt_or_ge j k with hji | hji
      · simp only [List.getElem?_append_left (show j < S.sorts.length by omega)]
        exact h.same j hji
      · obtain rfl : j = S.sorts.length := by omega
        simp only [List.getElem?_concat_length]
        rw [hk.2, hs]
    · simp only [List.getElem?_append_left (show 0 < S.sorts.length by omega)]
      exact h.bool
    · simp only [List.getElem?_append_left (show 1 < S.sorts.length by omega)]
      exact h.int
    · rcases Nat.lt_or_ge j k with hji | hji
      · exact h.ok j t h2 hji ht
      · obtain rfl : j = k := by omega
        obtain rfl := Option.some.inj (hs.symm.trans ht)
        refine ⟨by rw [← hk.2]; exact hok, fun i x hij hx => hno x ?_⟩
        rw [← h.same i hij] at hx
        exact List.mem_of_getElem? hx
theorem SrtSt.all {d : Dump} {S : RSt} (h : SrtSt d d.sorts.length S) (h2 : 2 ≤ d.sorts.length) : S.sorts = d.sorts := by
  refine List.ext_getElem? fun j => ?_
  have hl := h.len
  rcases Nat.lt_or_ge j d.sorts.length with hj | hj
  · exact h.same j hj
  · rw [List.getElem?_eq_none (by omega), List.getElem?_eq_none (by omega)]
/-- While functions are laid. -/
structure FunSt (d : Dump) (k : Nat) (S : RSt) : Prop where
  sorts : S.sorts = d.sorts
  funs : S.funs = d.funs.take k
  none : S.terms = [] ∧ S.ofs = []
  ok : FirstAll (fun (f : Fun) => ArgsOk d.sorts.length f.args ∧ 0 ≤ f.result ∧ f.result < d.sorts.length) d.funs k
/-- While terms are laid. -/
structure TrmSt (d : Dump) (k : Nat) (S : RSt) : Prop where
  sorts : S.sorts = d.sorts
  funs : S.funs = d.funs
  terms : S.terms = d.terms.take k
  ofs : S.ofs = ofsTo d.funs d.terms k
  ok : ∀ (j : Nat) (t : Term), j < k → d.terms[j]? = some t → TermOk d.funs j (ofsTo d.funs d.terms j) (constsTo d.terms j) t ∧ ∀ (i : Nat) (x : Term), i < j → d.terms[i]? = some x → x ≠ t
theorem constsTo_take {l : List Term} {n : Nat} : ∀ {k : Nat}, k ≤ n → constsTo (l.take n) k = constsTo l k
  | 0, _ => rfl
  | k + 1, h => by
    rw [constsTo, constsTo, constsTo_take (show k ≤ n by omega), List.getElem?_take_of_lt (by omega)]
theorem TrmSt.back {d : Dump} {k : Nat} {S : RSt} (h : TrmSt d k S) : BackOk S.terms := fun i t ht j hj => by
  rw [h.terms] at ht
  have hi : i < k := by
    have := (List.getElem?_eq_some_iff.1 ht).1
    rw [List.length_take] at this
    omega
  rw [List.getElem?_take_of_lt hi] at ht
  exact (h.ok i t hi ht).1.kids j hj
theorem TrmSt.len {d : Dump} {k : Nat} {S : RSt} (h : TrmSt d k S) (hk : k ≤ d.terms.length) : S.terms.length = k ∧ S.ofs.length = k := by
  rw [h.terms, h.ofs, List.length_take, ofsTo_len hk]
  omega
theorem TrmSt.step {d : Dump} {k : Nat} {S S' : RSt} {t : Term} {a c : Int} (h : TrmSt d k S) (ht : d.terms[k]? = some t) (hr : TermRes S t a c S') (ha : a = k) (hc : c = 0) : TrmSt d (k + 1) S' := by
  have hk := (List.getElem?_eq_some_iff.1 ht).1
  obtain ⟨hl, _⟩ := h.len (by omega)
  obtain ⟨hok, hcase⟩ := hr hc
  rcases hcase with ⟨i, hi, hil⟩ | ⟨hi, hno, rfl⟩
  · omega
  · refine ⟨h.sorts, h.funs, ?_, ?_, fun j x hj hx => ?_⟩
    · simp only [h.terms, take_snoc' ht]
    · simp only [h.ofs, h.funs, ofsTo_succ ht]
    · rcases Nat.lt_or_ge j k with hji | hji
      · exact h.ok j x hji hx
      · obtain rfl : j = k := by omega
        obtain rfl := Option.some.inj (ht.symm.trans hx)
        rw [hl, h.funs, h.ofs, h.terms, constsTo_take (Nat.le_refl _)] at hok
        refine ⟨hok, fun i y hij hy => hno y ?_⟩
        rw [h.terms]
        rw [← List.getElem?_take_of_lt hij] at hy
        exact List.mem_of_getElem? hy

/-- What the reference says of a dump. -/
def LoadSays (d : Dump) (w : World) (e : Ending) (w' : World) : Prop := ∃ b : Bool, e = .returned (.bool b) ∧ (b = true → LoadOk d) ∧ Ext NoB w w'
theorem LoadSays.no {d : Dump} {w w' : World} (h : Ext NoB w w') : LoadSays d w (.returned (.bool false)) w' := ⟨false, rfl, (fun h => by cases h), h⟩

/-- The commands so far. -/
def CmdsTo (d : Dump) (k : Nat) : Prop := 0 ≤ levelTo d.cmds k ∧ levelTo d.cmds k ≤ 1000 ∧ ∀ (j : Nat) (c : Cmd), j < k → d.cmds[j]? = some c → CmdOk d (ofsTo d.funs d.terms d.terms.length) (levelTo d.cmds j) c
theorem CmdsTo.step {d : Dump} {k : Nat} {c : Cmd} (h : CmdsTo d k) (hc : d.cmds[k]? = some c) (hok : CmdOk d (ofsTo d.funs d.terms d.terms.length) (levelTo d.cmds k) c) : CmdsTo d (k + 1) := by
  obtain ⟨h0, h1, h2⟩ := h
  have hl := level_lit hc
  obtain ⟨_, _, _, _, _, k7, k8⟩ := id hok
  refine ⟨?_, ?_, fun j x hj hx => ?_⟩
  · rw [hl]
    split
    · have := k7 ‹_›; omega
    · split
      · have := k8 ‹_›; omega
      · exact h0
  · rw [hl]
    split
    · have := k7 ‹_›; omega
    · split
      · have := k8 ‹_›; omega
      · exact h1
  · rcases Nat.lt_or_ge j k with hji | hji
    · exact h2 j x hji hx
    · obtain rfl : j = k := by omega
      obtain rfl := Option.some.inj (hc.symm.trans hx)
      exact hok

/-- What is asked of a command ahead of its term. -/
def CmdR (d : Dump) (level kind n fn : Int) : Prop := (1 ≤ kind ∧ kind ≤ 9) ∧ (kind = 2 → 0 ≤ n ∧ n ≤ 8) ∧ (kind = 3 → 0 ≤ fn ∧ fn < d.funs.length) ∧ (kind = 7 → 0 ≤ n ∧ n ≤ 1000 - level) ∧ (kind = 8 → 0 ≤ n ∧ n ≤ level)
theorem cmdOk_mk {d : Dump} {ofs : List Int} {level kind n fn term : Int} {name : ByteArray} (h1 : 1 ≤ kind ∧ kind ≤ 9) (h2 : kind = 2 → 0 ≤ n ∧ n ≤ 8) (h3 : kind = 3 → 0 ≤ fn ∧ fn < d.funs.length) (h4 : kind = 4 → 0 ≤ term ∧ term < d.terms.length ∧ rdI ofs term.toNat = 0) (h7 : kind = 7 → 0 ≤ n ∧ n ≤ 1000 - level) (h8 : kind = 8 → 0 ≤ n ∧ n ≤ level) : CmdOk d ofs level ⟨kind, n, name, fn, term⟩ := ⟨h1.1, h1.2, h2, h3, h4, h7, h8⟩

section
variable {w : World}
attribute [local go_sem] undef in
set_option maxRecDepth 100000 in
set_option maxHeartbeats 8000000 in
theorem c_rLoad (d : Dump) (vd : Value) (hd : kDump.agg w NoB d vd) (hs : Small d) : Calls Tryz.prog 9 #[vd] w (LoadSays d w) := by
  obtain ⟨v1, v2, v3, v4, rfl, d1, d2, d3, d4⟩ := dump_open hd
  obtain ⟨A1, n1, hv1, _, _, _⟩ := Kd.one_slice d1
  obtain ⟨A2, n2, hv2, _, _, _⟩ := Kd.one_slice d2
  obtain ⟨A3, n3, hv3, _, _, _⟩ := Kd.one_slice d3
  obtain ⟨A4, n4, hv4, _, _, _⟩ := Kd.one_slice d4
  subst hv1
  subst hv2
  subst hv3
  subst hv4
  have D1 := Lib.hid d1
  have D2 := Lib.hid d2
  have D3 := Lib.hid d3
  have D4 := Lib.hid d4
  have HS := Lib.hid hs
  have hns := hs.ns
  have hnf := hs.nf
  have hnt := hs.nt
  have hnc := hs.nc
  have HE1 : Hid (Ext NoB w (w.alloc (.cells #[.slice A1 d.sorts.length n1, .slice A2 d.funs.length n2, .slice A3 d.terms.length n3, .slice A4 d.cmds.length n4] 27))) := Lib.hid ((Ext.refl _ _).alloc _)
  clear hd d1 d2 d3 d4 hs
  go_enter Tryz.func9, Tryz.ntmps9
  go_wp2_with fail
  have HB0 : Hid (Bq w.heap.size (.slice A1 d.sorts.length n1) (.slice A2 d.funs.length n2) (.slice A3 d.terms.length n3) (.slice A4 d.cmds.length n4) (w.alloc (.cells #[.slice A1 d.sorts.length n1, .slice A2 d.funs.length n2, .slice A3 d.terms.length n3, .slice A4 d.cmds.length n4] 27))) := Lib.hid ⟨by go_simp, by go_simp, by go_simp, by go_simp⟩
  have hsz1 : w.heap.size < (w.alloc (.cells #[.slice A1 d.sorts.length n1, .slice A2 d.funs.length n2, .slice A3 d.terms.length n3, .slice A4 d.cmds.length n4] 27)).heap.size := by simp
  have HSZ := Lib.hid hsz1
  clear hsz1
  refine (c_rNew _).mono ?_
  rintro e w2 ⟨p, A, O, rfl, hra, hgr⟩
  generalize (w.alloc (.cells #[.slice A1 d.sorts.length n1, .slice A2 d.funs.length n2, .slice A3 d.terms.length n3, .slice A4 d.cmds.length n4] 27)) = w1 at *
  replace D1 := Lib.hid (kSrts.oneExt D1.out HE1.out)
  replace D2 := Lib.hid (kFuns.oneExt D2.out HE1.out)
  replace D3 := Lib.hid (kTerms.oneExt D3.out HE1.out)
  replace D4 := Lib.hid (kCmds.oneExt D4.out HE1.out)
  have HR2 : Hid (RA w2 O p A R0 ∧ Gr NoB w1 O w2) := Lib.hid ⟨hra, hgr⟩
  obtain ⟨b0, b1, b2, b3⟩ := HB0.out.ext hgr.1 (fun h => h)
  clear hra hgr
  unfold ptr
  by_cases h2 : d.sorts.length < 2
  · have q : decide ((d.sorts.length : Int) < 2) = true := by rw [decide_eq_true_eq]; omega
    have q' : decide (d.sorts.length < 2) = true := decide_eq_true h2
    go_wp2_with fail
    go_ret
    exact LoadSays.no (HE1.out.trans HR2.out.2.1)
  have q : decide ((d.sorts.length : Int) < 2) = false := by rw [decide_eq_false_iff_not]; omega
  have q' : decide (d.sorts.length < 2) = false := decide_eq_false h2
  have H2 : Hid (2 ≤ d.sorts.length) := Lib.hid (by omega)
  clear h2
  go_wp2_with fail
  clear b0 b1 b2 b3
  go_loopw [4] (fun i wr => ∃ k : Nat, k ≤ d.sorts.length ∧ i = .int .i64 k ∧ Hid (∃ A' O' S', RA wr O' p A' S' ∧ Gr NoB w1 O' wr ∧ SrtSt d k S')) (fun i _ => d.sorts.length - (intOf i).toNat)
  case atStart => exact ⟨0, Nat.zero_le _, rfl, Lib.hid ⟨A, O, R0, HR2.out.1, HR2.out.2, SrtSt.start d⟩⟩
  case round =>
    clear HR2
    obtain ⟨k, hk, rfl, HR⟩ := hrel
    obtain ⟨Aa, Oo, Ss, hra, hgr, hst⟩ := HR.out
    have HRA := Lib.hid hra
    have HGR := Lib.hid hgr
    have HST := Lib.hid hst
    obtain ⟨b0, b1, b2, b3⟩ := HB0.out.ext hgr.1 (fun h => h)
    have lb := cell_lt b0
    clear hra hgr hst HR
    by_cases hlt : k < d.sorts.length
    · obtain ⟨x, hx⟩ := at_some hlt
      obtain ⟨_, _, hv, _, _, hr⟩ := Kd.one_slice (kSrts.oneKeep (O' := Oo) D1.out HGR.out.1 HGR.out.2)
      injection hv with hv1 hv2 hv3
      subst hv1
      clear hv2 hv3
      obtain ⟨rb, ro, hA, _, hrow⟩ := hr (ne_nil_of_lt hlt)
      subst hA
      obtain ⟨Ka, ka, ⟨x0, x1⟩, hargs, hnm⟩ := row_srt hrow hx
      have HX := Lib.hid hx
      have HAR := Lib.hid (kInts.oneExt hargs (Ext.refl Oo wr).drew)
      have HNM := Lib.hid hnm
      have HSL : Hid (Ss.sorts.length ≤ 1000) := Lib.hid (by have := HST.out.len; omega)
      have HSTT : Hid (wr.drew.cell? ⟨w.heap.size, 0, none⟩ = some (.slice (some ⟨rb, ro, none⟩) d.sorts.length n1) ∧ wr.drew.cell? ⟨rb, ro + k * 2, none⟩ = some (.string x.name) ∧ wr.drew.cell? ⟨rb, ro + k * 2 + 1, none⟩ = some (.slice Ka x.args.length ka)) := Lib.hid ⟨b0, x0, x1⟩
      have g1 : (k : Int) < (d.sorts.length : Int) := by omega
      clear hr hrow hx hargs hnm x0 x1
      go_wp2_with fail
      refine wpM_begin (fun W => W.cell? ⟨w.heap.size, 0, none⟩ = some (.slice (some ⟨rb, ro, none⟩) d.sorts.length n1) ∧ W.cell? ⟨rb, ro + k * 2, none⟩ = some (.string x.name) ∧ W.cell? ⟨rb, ro + k * 2 + 1, none⟩ = some (.slice Ka x.args.length ka)) [13] [0, 1, 2, 3, 4, 5, 6, 7, 8, 9, 10, 11, 12] (by kernel_rfl) (by kernel_rfl) (HSTT.out) (fun hS0 hA => ?_)
      refine wpM_free 0 rfl (by kernel_rfl) rfl (by intro w; go_simp; try rfl) ?_; (try simp only [Act.put, List.setIfInBounds_toArray, List.set_cons_zero, List.set_cons_succ])
      refine wpM_free 1 rfl (by kernel_rfl) rfl (by intro w; go_simp; try rfl) ?_; (try simp only [Act.put, List.setIfInBounds_toArray, List.set_cons_zero, List.set_cons_succ])
      refine wpM_take 2 hA hS0 rfl (by kernel_rfl) rfl (by intro w hs; (try dsimp only at hs); go_simp; try rfl) ?_; (try simp only [Act.put, List.setIfInBounds_toArray, List.set_cons_zero, List.set_cons_succ])
      refine wpM_free 3 rfl (by kernel_rfl) rfl (by intro w; go_simp; try rfl) ?_; (try simp only [Act.put, List.setIfInBounds_toArray, List.set_cons_zero, List.set_cons_succ])
      refine wpM_free 4 rfl (by kernel_rfl) rfl (by intro w; go_simp; try rfl) ?_; (try simp only [Act.put, List.setIfInBounds_toArray, List.set_cons_zero, List.set_cons_succ])
      refine wpM_free 5 rfl (by kernel_rfl) rfl (by intro w; go_simp; try rfl) ?_; (try simp only [Act.put, List.setIfInBounds_toArray, List.set_cons_zero, List.set_cons_succ])
      refine wpM_take 6 hA hS0 rfl (by kernel_rfl) rfl (by intro w hs; (try dsimp only at hs); go_simp; try rfl) ?_; (try simp only [Act.put, List.setIfInBounds_toArray, List.set_cons_zero, List.set_cons_succ])
      refine wpM_free 7 rfl (by kernel_rfl) rfl (by intro w; go_simp; try rfl) ?_; (try simp only [Act.put, List.setIfInBounds_toArray, List.set_cons_zero, List.set_cons_succ])
      refine wpM_take 8 hA hS0 rfl (by kernel_rfl) rfl (by intro w hs; (try dsimp only at hs); go_simp; try rfl) ?_; (try simp only [Act.put, List.setIfInBounds_toArray, List.set_cons_zero, List.set_cons_succ])
      refine wpM_free 9 rfl (by kernel_rfl) rfl (by intro w; go_simp; try rfl) ?_; (try simp only [Act.put, List.setIfInBounds_toArray, List.set_cons_zero, List.set_cons_succ])
      refine wpM_free 10 rfl (by kernel_rfl) rfl (by intro w; go_simp; try rfl) ?_; (try simp only [Act.put, List.setIfInBounds_toArray, List.set_cons_zero, List.set_cons_succ])
      refine wpM_free 11 rfl (by kernel_rfl) rfl (by intro w; go_simp; try rfl) ?_; (try simp only [Act.put, List.setIfInBounds_toArray, List.set_cons_zero, List.set_cons_succ])
      refine wpM_take 12 hA hS0 rfl (by kernel_rfl) rfl (by intro w hs; (try dsimp only at hs); go_simp; try rfl) ?_; (try simp only [Act.put, List.setIfInBounds_toArray, List.set_cons_zero, List.set_cons_succ])
      refine wpM_last 13 rfl (by kernel_rfl) (by decide) (fun K hK => ?_)
      go_simp
      refine (c_rSort (HRA.out.ext (Ext.refl NoB wr).drew) x.name _ x.args HAR.out HNM.out HSL.out).mono ?_
      rintro e w3 ⟨a, c, rfl, A3', O3, S3, hra3, hgr3, hres3⟩
      have HRA3 := Lib.hid hra3
      have HGR3 := Lib.hid (HGR.out.trans ((Gr.of (O := Oo) (Ext.refl NoB wr).drew).trans hgr3))
      have HRES := Lib.hid hres3
      clear hra3 hgr3 hres3
      refine hK.out _ _ ?_
      clear hK K; (try simp only [Act.put, List.setIfInBounds_toArray, List.set_cons_zero, List.set_cons_succ])
      refine wpM_free 14 rfl (by kernel_rfl) rfl (by intro w; go_simp; try rfl) ?_; (try simp only [Act.put, List.setIfInBounds_toArray, List.set_cons_zero, List.set_cons_succ])
      refine wpM_free 15 rfl (by kernel_rfl) rfl (by intro w; go_simp; try rfl) ?_; (try simp only [Act.put, List.setIfInBounds_toArray, List.set_cons_zero, List.set_cons_succ])
      refine wpM_free 16 rfl (by kernel_rfl) rfl (by intro w; go_simp; try rfl) ?_; (try simp only [Act.put, List.setIfInBounds_toArray, List.set_cons_zero, List.set_cons_succ])
      refine wpM_free 17 rfl (by kernel_rfl) rfl (by intro w; go_simp; try rfl) ?_; (try simp only [Act.put, List.setIfInBounds_toArray, List.set_cons_zero, List.set_cons_succ])
      refine wpM_free 18 rfl (by kernel_rfl) rfl (by intro w; go_simp; try rfl) ?_; (try simp only [Act.put, List.setIfInBounds_toArray, List.set_cons_zero, List.set_cons_succ])
      refine wpM_done (by kernel_rfl) ?_
      clear hS0
      by_cases ha : a = k
      · subst ha
        have qa : ((k : Int) != (k : Int)) = false := by simp
        by_cases hc : c = 0
        · subst hc
          have HST3 := Lib.hid (HST.out.step HX.out HRES.out rfl rfl)
          go_wp2_with fail
          exact ⟨⟨k + 1, by omega, by go_num, Lib.hid ⟨_, _, _, HRA3.out, HGR3.out, HST3.out⟩⟩, by simp [intOf]; omega⟩
        · have qc : (c != 0) = true := by rw [bne_iff_ne]; exact hc
          go_wp2_with fail
          go_ret
          exact LoadSays.no (HE1.out.trans HGR3.out.1)
      · have qa : (a != (k : Int)) = true := by rw [bne_iff_ne]; exact ha
        go_wp2_with fail
        go_ret
        exact LoadSays.no (HE1.out.trans HGR3.out.1)
    · obtain rfl : k = d.sorts.length := by omega
      have HSS : Hid (FunSt d 0 Ss) := Lib.hid ⟨HST.out.all H2.out, by rw [HST.out.none.1]; rfl, HST.out.none.2, FirstAll.zero _ _⟩
      have HSA : Hid (d.sorts[0]? = some ⟨nBool, []⟩ ∧ d.sorts[1]? = some ⟨nInt, []⟩ ∧ ∀ (i : Nat) (s : Srt), 2 ≤ i → d.sorts[i]? = some s → ArgsOk i s.args ∧ ∀ (k : Nat) (x : Srt), k < i → d.sorts[k]? = some x → ¬ (x.name = s.name ∧ x.args = s.args)) := Lib.hid (by
        have e := HST.out.all H2.out
        refine ⟨by rw [← e]; exact HST.out.bool, by rw [← e]; exact HST.out.int, fun i s h2 hi => HST.out.ok i s h2 (List.getElem?_eq_some_iff.1 hi).1 hi⟩)
      clear hlt hk HST
      go_wp2_with fail
      clear b0 b1 b2 b3 lb
      go_loopw [7] (fun i wr => ∃ k : Nat, k ≤ d.funs.length ∧ i = .int .i64 k ∧ Hid (∃ A' O' S', RA wr O' p A' S' ∧ Gr NoB w1 O' wr ∧ FunSt d k S')) (fun i _ => d.funs.length - (intOf i).toNat)
      case atStart => exact ⟨0, Nat.zero_le _, rfl, Lib.hid ⟨_, _, _, HRA.out, HGR.out, HSS.out⟩⟩
      case round =>
        clear HRA HGR HSS
        obtain ⟨k, hk, rfl, HR⟩ := hrel
        obtain ⟨Aa, Oo, Ss, hra, hgr, hst⟩ := HR.out
        have HRA := Lib.hid hra
        have HGR := Lib.hid hgr
        have HST := Lib.hid hst
        obtain ⟨b0, b1, b2, b3⟩ := HB0.out.ext hgr.1 (fun h => h)
        have lb := cell_lt b0
        clear hra hgr hst HR
        by_cases hlt : k < d.funs.length
        · obtain ⟨x, hx⟩ := at_some hlt
          obtain ⟨_, _, hv, _, _, hr⟩ := Kd.one_slice (kFuns.oneKeep (O' := Oo) D2.out HGR.out.1 HGR.out.2)
          injection hv with hv1 hv2 hv3
          subst hv1
          clear hv2 hv3
          obtain ⟨rb, ro, hA, _, hrow⟩ := hr (ne_nil_of_lt hlt)
          subst hA
          obtain ⟨Ka, ka, ⟨x0, x1, x2⟩, hargs, hnm, hwf⟩ := row_fun hrow hx
          have HX := Lib.hid hx
          have HF : Hid (kFun.agg wr Oo x (.agg #[.string x.name, .slice Ka x.args.length ka, .int .i64 x.result])) := Lib.hid ⟨_, rfl, kFun_iff.2 ⟨_, rfl, hnm, hargs, hwf⟩⟩
          have HSL : Hid (Ss.sorts.length ≤ 1000 ∧ Ss.funs.length ≤ 1000 ∧ x.args.length ≤ 1000) := Lib.hid (by
            have e1 := HST.out.sorts
            have e2 := HST.out.funs
            have := (HS.out.fu x (List.mem_of_getElem? hx)).1
            rw [e1, e2, List.length_take]
            omega)
          have lx := cell_lt x0
          clear hr hrow hx hargs hnm hwf
          go_wp2_with fail
          refine (c_rFun HRA.out x _ HF.out HSL.out.1 HSL.out.2.1 HSL.out.2.2).mono ?_
          rintro e w3 ⟨a, c, rfl, A3', O3, S3, hra3, hgr3, hres3⟩
          have HRA3 := Lib.hid hra3
          have HGR3 := Lib.hid (HGR.out.trans hgr3)
          have HRES := Lib.hid hres3
          clear hra3 hgr3 hres3 b0 b1 b2 b3 lb x0 x1 x2 lx
          by_cases hc : c = 0
          · subst hc
            have HST3 : Hid (FunSt d (k + 1) S3) := Lib.hid (by
              obtain ⟨r1, r2, r3, rfl⟩ := HRES.out rfl
              have hs0 := HST.out
              rw [hs0.sorts] at r1 r3
              exact ⟨hs0.sorts, by simp only [hs0.funs, take_snoc' HX.out], hs0.none, hs0.ok.succ HX.out ⟨r1, r2, r3⟩⟩)
            go_wp2_with fail
            exact ⟨⟨k + 1, by omega, by go_num, Lib.hid ⟨_, _, _, HRA3.out, HGR3.out, HST3.out⟩⟩, by simp [intOf]; omega⟩
          · have qc : (c != 0) = true := by rw [bne_iff_ne]; exact hc
            go_wp2_with fail
            go_ret
            exact LoadSays.no (HE1.out.trans HGR3.out.1)
        · obtain rfl : k = d.funs.length := by omega
          have HSS : Hid (TrmSt d 0 Ss) := Lib.hid ⟨HST.out.sorts, by rw [HST.out.funs, List.take_of_length_le (Nat.le_refl _)], by rw [HST.out.none.1]; rfl, by rw [HST.out.none.2]; rfl, fun j t hj => by omega⟩
          have HFA := Lib.hid HST.out.ok.all
          clear hlt hk HST
          go_wp2_with fail
          clear b0 b1 b2 b3 lb
          go_loopw [10] (fun i wr => ∃ k : Nat, k ≤ d.terms.length ∧ i = .int .i64 k ∧ Hid (∃ A' O' S', RA wr O' p A' S' ∧ Gr NoB w1 O' wr ∧ TrmSt d k S')) (fun i _ => d.terms.length - (intOf i).toNat)
          case atStart => exact ⟨0, Nat.zero_le _, rfl, Lib.hid ⟨_, _, _, HRA.out, HGR.out, HSS.out⟩⟩
          case round =>
            clear HRA HGR HSS
            obtain ⟨k, hk, rfl, HR⟩ := hrel
            obtain ⟨Aa, Oo, Ss, hra, hgr, hst⟩ := HR.out
            have HRA := Lib.hid hra
            have HGR := Lib.hid hgr
            have HST := Lib.hid hst
            obtain ⟨b0, b1, b2, b3⟩ := HB0.out.ext hgr.1 (fun h => h)
            have lb := cell_lt b0
            clear hra hgr hst HR
            by_cases hlt : k < d.terms.length
            · obtain ⟨x, hx⟩ := at_some hlt
              obtain ⟨_, _, hv, _, _, hr⟩ := Kd.one_slice (kTerms.oneKeep (O' := Oo) D3.out HGR.out.1 HGR.out.2)
              injection hv with hv1 hv2 hv3
              subst hv1
              clear hv2 hv3
              obtain ⟨rb, ro, hA, _, hrow⟩ := hr (ne_nil_of_lt hlt)
              subst hA
              obtain ⟨Ka, ka, ⟨x0, x1, x2, x3⟩, hargs, wa, wb, wc⟩ := row_term hrow hx
              have HX := Lib.hid hx
              have HF : Hid (kTerm.agg wr Oo x (.agg #[.int .i64 x.op, .int .i64 x.fn, .slice Ka x.kids.length ka, .string x.num])) := Lib.hid ⟨_, rfl, kTerm_iff.2 ⟨_, rfl, wa, wb, hargs, wc⟩⟩
              have HSL : Hid (Ss.ofs.length = Ss.terms.length ∧ Ss.funs.length ≤ 1000 ∧ Ss.terms.length ≤ 1000 ∧ x.kids.length ≤ 1000) := Lib.hid (by
                have e1 := HST.out.len hk
                have e2 := HST.out.funs
                have := (HS.out.te x (List.mem_of_getElem? hx)).1
                rw [e2]
                omega)
              have lx := cell_lt x0
              clear hr hrow hx hargs wa wb wc
              go_wp2_with fail
              refine (c_rTerm HRA.out x _ HF.out HST.out.back HSL.out.1 HSL.out.2.1 HSL.out.2.2.1 HSL.out.2.2.2).mono ?_
              rintro e w3 ⟨a, c, rfl, A3', O3, S3, hra3, hgr3, hres3⟩
              have HRA3 := Lib.hid hra3
              have HGR3 := Lib.hid (HGR.out.trans hgr3)
              have HRES := Lib.hid hres3
              clear hra3 hgr3 hres3 b0 b1 b2 b3 lb x0 x1 x2 x3 lx
              by_cases ha : a = k
              · subst ha
                have qa : ((k : Int) != (k : Int)) = false := by simp
                by_cases hc : c = 0
                · subst hc
                  have HST3 := Lib.hid (HST.out.step HX.out HRES.out rfl rfl)
                  go_wp2_with fail
                  exact ⟨⟨k + 1, by omega, by go_num, Lib.hid ⟨_, _, _, HRA3.out, HGR3.out, HST3.out⟩⟩, by simp [intOf]; omega⟩
                · have qc : (c != 0) = true := by rw [bne_iff_ne]; exact hc
                  go_wp2_with fail
                  go_ret
                  exact LoadSays.no (HE1.out.trans HGR3.out.1)
              · have qa : (a != (k : Int)) = true := by rw [bne_iff_ne]; exact ha
                go_wp2_with fail
                go_ret
                exact LoadSays.no (HE1.out.trans HGR3.out.1)
            · obtain rfl : k = d.terms.length := by omega
              have HSS : Hid (Ss.sorts = d.sorts ∧ Ss.funs = d.funs ∧ Ss.terms = d.terms ∧ Ss.ofs = ofsTo d.funs d.terms d.terms.length) := Lib.hid ⟨HST.out.sorts, HST.out.funs, by rw [HST.out.terms, List.take_of_length_le (Nat.le_refl _)], HST.out.ofs⟩
              have HTA := Lib.hid HST.out.ok
              clear hlt hk HST
              go_wp2_with fail
              clear b0 b1 b2 b3 lb
              have HRQ0 := HRA
              obtain ⟨Tf, tfc, hTf, _, _⟩ := HRA.out.funs.shape
              obtain ⟨Tt, ttc, hTt, _, _⟩ := HRA.out.terms.shape
              have HCC : Hid (wr.cell? ⟨p, 1, none⟩ = some (.slice Tf d.funs.length tfc) ∧ wr.cell? ⟨p, 2, none⟩ = some (.slice Tt d.terms.length ttc)) := Lib.hid ⟨by rw [← HSS.out.2.1, ← hTf]; exact HRA.out.c1, by rw [← HSS.out.2.2.1, ← hTt]; exact HRA.out.c2⟩
              clear hTf hTt HRQ0
              go_loopw [13, 14] (fun lv i wq => ∃ k : Nat, k ≤ d.cmds.length ∧ i = .int .i64 k ∧ lv = .int .i64 (levelTo d.cmds k) ∧ Hid (CmdsTo d k) ∧ Hid (Ext NoB wr wq)) (fun _ i _ => d.cmds.length - (intOf i).toNat)
              case atStart => exact ⟨0, Nat.zero_le _, rfl, rfl, Lib.hid ⟨by simp [levelTo], by simp [levelTo], fun j c hj => by omega⟩, Lib.hid (Ext.refl _ _)⟩
              case round =>
                obtain ⟨k, hk, rfl, rfl, HC, HE⟩ := hrel
                obtain ⟨b0, b1, b2, b3⟩ := HB0.out.ext (HGR.out.1.trans HE.out) (fun h => h)
                have HALL := Lib.hid (HE1.out.trans (HGR.out.1.trans HE.out))
                have HRQ := Lib.hid (HRA.out.ext HE.out)
                have lb := cell_lt b0
                by_cases hlt : k < d.cmds.length
                · obtain ⟨x, hx⟩ := at_some hlt
                  obtain ⟨_, _, hv, _, _, hr⟩ := Kd.one_slice (kCmds.oneExt (kCmds.oneKeep (O' := Oo) D4.out HGR.out.1 HGR.out.2) HE.out.no)
                  injection hv with hv1 hv2 hv3
                  subst hv1
                  clear hv2 hv3
                  obtain ⟨rb, ro, hA, _, hrow⟩ := hr (ne_nil_of_lt hlt)
                  subst hA
                  obtain ⟨⟨x0, x1, x2, x3, x4⟩, _⟩ := row_cmd hrow hx
                  have hls := level_lit hx
                  obtain ⟨kind, n, name, fn, term⟩ := x
                  simp only at x0 x1 x2 x3 x4 hls
                  have HX := Lib.hid hx
                  have HLS := Lib.hid hls
                  have HE2 : Hid (Ext NoB wr (wr.alloc (.cells #[.int .i64 kind, .int .i64 n, .string name, .int .i64 fn, .int .i64 term] 76))) := Lib.hid ((Ext.refl _ _).alloc _)
                  obtain ⟨l0, l1, _⟩ := HC.out
                  have c1 := HE.out.cell HCC.out.1 (fun h => h)
                  have c2 := HE.out.cell HCC.out.2 (fun h => h)
                  have lx := cell_lt x0
                  have lp := cell_lt c1
                  clear hrow hr hx hls
                  go_upto_region 27 with fail
                  have y0 : (wr.alloc (.cells #[.int .i64 kind, .int .i64 n, .string name, .int .i64 fn, .int .i64 term] 76)).cell? ⟨wr.heap.size, 0, none⟩ = some (.int .i64 kind) := by go_simp
                  have y1 : (wr.alloc (.cells #[.int .i64 kind, .int .i64 n, .string name, .int .i64 fn, .int .i64 term] 76)).cell? ⟨wr.heap.size, 1, none⟩ = some (.int .i64 n) := by go_simp
                  have y3 : (wr.alloc (.cells #[.int .i64 kind, .int .i64 n, .string name, .int .i64 fn, .int .i64 term] 76)).cell? ⟨wr.heap.size, 3, none⟩ = some (.int .i64 fn) := by go_simp
                  have y4 : (wr.alloc (.cells #[.int .i64 kind, .int .i64 n, .string name, .int .i64 fn, .int .i64 term] 76)).cell? ⟨wr.heap.size, 4, none⟩ = some (.int .i64 term) := by go_simp
                  replace c1 := HE2.out.cell c1 (fun h => h)
                  replace c2 := HE2.out.cell c2 (fun h => h)
                  replace b0 := HE2.out.cell b0 (fun h => h)
                  replace b3 := HE2.out.cell b3 (fun h => h)
                  have HE3 := Lib.hid (HALL.out.trans HE2.out)
                  have HE4 := Lib.hid (HE.out.trans HE2.out)
                  have HR4 := Lib.hid (HRQ.out.ext HE2.out)
                  generalize hgb : wr.heap.size = gb at *
                  generalize wr.alloc (.cells #[.int .i64 kind, .int .i64 n, .string name, .int .i64 fn, .int .i64 term] 76) = W1 at *
                  clear x0 x1 x2 x3 x4 lx lp hgb HE2 HRQ HALL b1 b2
                  obtain ⟨lev, hlev⟩ : ∃ lev, levelTo d.cmds k = lev := ⟨_, rfl⟩
                  have HLV := Lib.hid hlev
                  rw [hlev] at l0 l1 ⊢
                  clear hlev
                  go_cut [182] from 107 to 182 (fun c wx => ∃ b : Bool, c = .bool b ∧ Hid (b = false → CmdR d lev kind n fn) ∧ ∃ n2, wx = W1.drewN n2)
                  case first =>
                    clear HC HRA HGR HX HLS HSS HTA HFA HSA HCC HR4 HE3 HE4 HE HB0 HLV D1 D2 D3 D4 H2 HE1 HSZ HS b0 b3
                    by_cases g1 : kind < 1
                    · as_aux_lemma =>
                        have qa : decide (kind < 1) = true := decide_eq_true g1
                        clear g1
                        go_wp2_with fail
                        go_quiet (fail)
                        go_wp2_with fail
                        go_meet
                        exact ⟨true, rfl, Lib.hid (fun e => by cases e), _, rfl⟩
                    by_cases g9 : 9 < kind
                    · as_aux_lemma =>
                        have qa : decide (kind < 1) = false := decide_eq_false g1
                        have qb : decide (9 < kind) = true := decide_eq_true g9
                        clear g1 g9
                        go_wp2_with fail
                        go_quiet (fail)
                        go_wp2_with fail
                        go_meet
                        exact ⟨true, rfl, Lib.hid (fun e => by cases e), _, rfl⟩
                    by_cases e2 : kind = 2
                    · subst e2
                      as_aux_lemma =>
                        by_cases h1 : n < 0
                        · have qb : decide (n < 0) = true := decide_eq_true h1
                          clear h1
                          go_wp2_with fail
                          go_quiet (fail)
                          go_wp2_with fail
                          go_meet
                          exact ⟨true, rfl, Lib.hid (fun e => by cases e), _, rfl⟩
                        have qb : decide (n < 0) = false := decide_eq_false h1
                        by_cases h2 : 8 < n
                        · have qc : decide (8 < n) = true := decide_eq_true h2
                          clear h1 h2
                          go_wp2_with fail
                          go_quiet (fail)
                          go_wp2_with fail
                          go_meet
                          exact ⟨true, rfl, Lib.hid (fun e => by cases e), _, rfl⟩
                        have qc : decide (8 < n) = false := decide_eq_false h2
                        have HOK : Hid (CmdR d lev 2 n fn) := Lib.hid (by unfold CmdR; omega)
                        clear h1 h2
                        go_wp2_with fail
                        go_quiet (fail)
                        go_wp2_with fail
                        go_meet
                        exact ⟨false, rfl, Lib.hid (fun _ => HOK.out), _, rfl⟩
                    by_cases e3 : kind = 3
                    · subst e3
                      clear e2
                      as_aux_lemma =>
                        by_cases h1 : fn < 0
                        · have qb : decide (fn < 0) = true := decide_eq_true h1
                          clear h1
                          go_wp2_with fail
                          go_quiet (fail)
                          go_wp2_with fail
                          go_meet
                          exact ⟨true, rfl, Lib.hid (fun e => by cases e), _, rfl⟩
                        have qb : decide (fn < 0) = false := decide_eq_false h1
                        by_cases h2 : (d.funs.length : Int) ≤ fn
                        · have qc : decide ((d.funs.length : Int) ≤ fn) = true := decide_eq_true h2
                          clear h1 h2
                          go_wp2_with fail
                          go_quiet (fail)
                          go_wp2_with fail
                          go_meet
                          exact ⟨true, rfl, Lib.hid (fun e => by cases e), _, rfl⟩
                        have qc : decide ((d.funs.length : Int) ≤ fn) = false := decide_eq_false h2
                        have HOK : Hid (CmdR d lev 3 n fn) := Lib.hid (by unfold CmdR; omega)
                        clear h1 h2
                        go_wp2_with fail
                        go_quiet (fail)
                        go_wp2_with fail
                        go_meet
                        exact ⟨false, rfl, Lib.hid (fun _ => HOK.out), _, rfl⟩
                    by_cases e7 : kind = 7
                    · subst e7
                      clear e2 e3
                      as_aux_lemma =>
                        by_cases h1 : n < 0
                        · have qb : decide (n < 0) = true := decide_eq_true h1
                          clear h1
                          go_wp2_with fail
                          go_quiet (fail)
                          go_wp2_with fail
                          go_meet
                          exact ⟨true, rfl, Lib.hid (fun e => by cases e), _, rfl⟩
                        have qb : decide (n < 0) = false := decide_eq_false h1
                        by_cases h2 : 1000 - lev < n
                        · have qc : decide (1000 - lev < n) = true := decide_eq_true h2
                          clear h1 h2
                          go_wp2_with fail
                          go_quiet (fail)
                          go_wp2_with fail
                          go_meet
                          exact ⟨true, rfl, Lib.hid (fun e => by cases e), _, rfl⟩
                        have qc : decide (1000 - lev < n) = false := decide_eq_false h2
                        have HOK : Hid (CmdR d lev 7 n fn) := Lib.hid (by unfold CmdR; omega)
                        clear h1 h2
                        go_wp2_with fail
                        go_quiet (fail)
                        go_wp2_with fail
                        go_meet
                        exact ⟨false, rfl, Lib.hid (fun _ => HOK.out), _, rfl⟩
                    by_cases e8 : kind = 8
                    · subst e8
                      clear e2 e3 e7
                      as_aux_lemma =>
                        by_cases h1 : n < 0
                        · have qb : decide (n < 0) = true := decide_eq_true h1
                          clear h1
                          go_wp2_with fail
                          go_quiet (fail)
                          go_wp2_with fail
                          go_meet
                          exact ⟨true, rfl, Lib.hid (fun e => by cases e), _, rfl⟩
                        have qb : decide (n < 0) = false := decide_eq_false h1
                        by_cases h2 : lev < n
                        · have qc : decide (lev < n) = true := decide_eq_true h2
                          clear h1 h2
                          go_wp2_with fail
                          go_quiet (fail)
                          go_wp2_with fail
                          go_meet
                          exact ⟨true, rfl, Lib.hid (fun e => by cases e), _, rfl⟩
                        have qc : decide (lev < n) = false := decide_eq_false h2
                        have HOK : Hid (CmdR d lev 8 n fn) := Lib.hid (by unfold CmdR; omega)
                        clear h1 h2
                        go_wp2_with fail
                        go_quiet (fail)
                        go_wp2_with fail
                        go_meet
                        exact ⟨false, rfl, Lib.hid (fun _ => HOK.out), _, rfl⟩
                    as_aux_lemma =>
                      have r2 : (kind == 2) = false := by rw [beq_eq_false_iff_ne]; exact e2
                      have r3 : (kind == 3) = false := by rw [beq_eq_false_iff_ne]; exact e3
                      have r7 : (kind == 7) = false := by rw [beq_eq_false_iff_ne]; exact e7
                      have r8 : (kind == 8) = false := by rw [beq_eq_false_iff_ne]; exact e8
                      have ra : decide (kind < 1) = false := decide_eq_false g1
                      have rb : decide (9 < kind) = false := decide_eq_false g9
                      have HOK : Hid (CmdR d lev kind n fn) := Lib.hid (by unfold CmdR; omega)
                      clear g1 g9 e2 e3 e7 e8
                      go_wp2_with fail
                      go_quiet (fail)
                      go_wp2_with fail
                      go_meet
                      exact ⟨false, rfl, Lib.hid (fun _ => HOK.out), _, rfl⟩
                  case rest =>
                    obtain ⟨b, rfl, HCR, n2, rfl⟩ := hcut
                    cases b with
                    | true =>
                      go_wp2_with fail
                      go_ret
                      exact LoadSays.no (HE3.out.drewN _)
                    | false =>
                      have HCK := Lib.hid (HCR.out rfl)
                      clear HCR
                      have HE5 := Lib.hid (HE3.out.drewN n2)
                      have HE6 := Lib.hid (HE4.out.drewN n2)
                      have HR5 := Lib.hid (HR4.out.ext (Dr.n W1 n2).ext)
                      replace y0 := (Dr.n W1 n2).ext.cell y0 (fun h : NoB _ => h)
                      replace y1 := (Dr.n W1 n2).ext.cell y1 (fun h : NoB _ => h)
                      replace y3 := (Dr.n W1 n2).ext.cell y3 (fun h : NoB _ => h)
                      replace y4 := (Dr.n W1 n2).ext.cell y4 (fun h : NoB _ => h)
                      replace c1 := (Dr.n W1 n2).ext.cell c1 (fun h : NoB _ => h)
                      replace c2 := (Dr.n W1 n2).ext.cell c2 (fun h : NoB _ => h)
                      replace b0 := (Dr.n W1 n2).ext.cell b0 (fun h : NoB _ => h)
                      replace b3 := (Dr.n W1 n2).ext.cell b3 (fun h : NoB _ => h)
                      clear HE3 HE4 HR4
                      generalize W1.drewN n2 = W2 at *
                      go_upto_region 29 with fail
                      go_cut [211] from 183 to 211 (fun c wx => ∃ b : Bool, c = .bool b ∧ Hid (b = false → kind = 4 → 0 ≤ term ∧ term < d.terms.length ∧ rdI (ofsTo d.funs d.terms d.terms.length) term.toNat = 0) ∧ ∃ n2, wx = W2.drewN n2)
                      case first =>
                        as_aux_lemma =>
                          have HSO : Hid (Ss.ofs = ofsTo d.funs d.terms d.terms.length) := Lib.hid HSS.out.2.2.2
                          clear HC HRA HGR HX HLS HSS HTA HFA HSA HCC HE5 HE6 HE HB0 HLV D1 D2 D3 D4 H2 HE1 HSZ HS b0 b3 HCK l0 l1
                          by_cases e4 : kind = 4
                          · subst e4
                            by_cases h1 : term < 0
                            · have qb : decide (term < 0) = true := decide_eq_true h1
                              clear h1
                              go_quiet (fail)
                              go_wp2_with fail
                              go_meet
                              exact ⟨true, rfl, Lib.hid (fun e => by cases e), _, rfl⟩
                            have qb : decide (term < 0) = false := decide_eq_false h1
                            by_cases h2 : (d.terms.length : Int) ≤ term
                            · have qc : decide ((d.terms.length : Int) ≤ term) = true := decide_eq_true h2
                              clear h1 h2
                              go_quiet (fail)
                              go_wp2_with fail
                              go_meet
                              exact ⟨true, rfl, Lib.hid (fun e => by cases e), _, rfl⟩
                            have qc : decide ((d.terms.length : Int) ≤ term) = false := decide_eq_false h2
                            obtain ⟨tn, rfl⟩ : ∃ tn : Nat, term = (tn : Int) := ⟨term.toNat, by omega⟩
                            have htn : tn < d.terms.length := by omega
                            have qe : decide (d.terms.length ≤ tn) = false := decide_eq_false (by omega)
                            obtain ⟨go_, gc, hov⟩ := HR5.out.ofs.form (by rw [HSO.out, ofsTo_len (Nat.le_refl _)]; omega)
                            have hofs := HR5.out.ofs
                            rw [hov] at hofs
                            obtain ⟨z0, _⟩ := hofs.int_at (k := tn) (by rw [HSO.out, ofsTo_len (Nat.le_refl _)]; omega)
                            have c3 := HR5.out.c3
                            rw [hov] at c3
                            rw [HSO.out] at z0 c3
                            rw [ofsTo_len (Nat.le_refl _)] at c3
                            have HTN : Hid (0 ≤ (tn : Int) ∧ (tn : Int) < d.terms.length) := Lib.hid (by omega)
                            clear hofs hov h1 h2 HSO HR5
                            by_cases h3 : rdI (ofsTo d.funs d.terms d.terms.length) tn = 0
                            · have HOK : Hid (0 ≤ (tn : Int) ∧ (tn : Int) < d.terms.length ∧ rdI (ofsTo d.funs d.terms d.terms.length) (tn : Int).toNat = 0) := Lib.hid ⟨HTN.out.1, HTN.out.2, h3⟩
                              rw [h3] at z0
                              clear h3
                              go_quiet (fail)
                              go_wp2_with fail
                              go_meet
                              exact ⟨false, rfl, Lib.hid (fun _ _ => HOK.out), _, rfl⟩
                            · have qd : (rdI (ofsTo d.funs d.terms d.terms.length) tn != 0) = true := by rw [bne_iff_ne]; exact h3
                              clear h3
                              generalize rdI (ofsTo d.funs d.terms d.terms.length) tn = so at *
                              go_quiet (fail)
                              go_wp2_with fail
                              go_meet
                              exact ⟨true, rfl, Lib.hid (fun e => by cases e), _, rfl⟩
                          · have q4 : (kind == 4) = false := by rw [beq_eq_false_iff_ne]; exact e4
                            have HN4 := Lib.hid e4
                            clear e4
                            go_quiet (fail)
                            go_wp2_with fail
                            go_meet
                            exact ⟨false, rfl, Lib.hid (fun _ e => absurd e HN4.out), _, rfl⟩
                      case rest =>
                        obtain ⟨b, rfl, HTR, n3, rfl⟩ := hcut
                        cases b with
                        | true =>
                          go_wp2_with fail
                          go_ret
                          exact LoadSays.no (HE5.out.drewN _)
                        | false =>
                          have HTK := Lib.hid (HTR.out rfl)
                          have HOK : Hid (CmdOk d (ofsTo d.funs d.terms d.terms.length) (levelTo d.cmds k) ⟨kind, n, name, fn, term⟩) := Lib.hid (by
                            rw [HLV.out]
                            obtain ⟨k1, k2, k3, k7, k8⟩ := HCK.out
                            exact cmdOk_mk k1 k2 k3 HTK.out k7 k8)
                          have HC2 := Lib.hid (HC.out.step HX.out HOK.out)
                          have HC7 : Hid ((kind = 7 → 0 ≤ n ∧ n ≤ 1000 - lev) ∧ (kind = 8 → 0 ≤ n ∧ n ≤ lev)) := Lib.hid HCK.out.2.2.2
                          clear HTR HTK HOK HCK
                          by_cases e7 : kind = 7
                          · subst e7
                            have E1 : Hid (levelTo d.cmds (k + 1) = lev + n) := Lib.hid (by rw [HLS.out, if_pos rfl, HLV.out])
                            obtain ⟨n0, n1⟩ := HC7.out.1 rfl
                            clear HLS HLV
                            go_wp2_with fail
                            exact ⟨⟨k + 1, by omega, by go_num, by rw [E1.out], HC2, Lib.hid (HE6.out.drewN _)⟩, by simp [intOf]; omega⟩
                          · have q7 : (kind == 7) = false := by rw [beq_eq_false_iff_ne]; exact e7
                            by_cases e8 : kind = 8
                            · subst e8
                              have E1 : Hid (levelTo d.cmds (k + 1) = lev - n) := Lib.hid (by rw [HLS.out, if_neg (by decide), if_pos rfl, HLV.out])
                              obtain ⟨n0, n1⟩ := HC7.out.2 rfl
                              clear HLS HLV e7
                              go_wp2_with fail
                              exact ⟨⟨k + 1, by omega, by go_num, by rw [E1.out], HC2, Lib.hid (HE6.out.drewN _)⟩, by simp [intOf]; omega⟩
                            · have q8 : (kind == 8) = false := by rw [beq_eq_false_iff_ne]; exact e8
                              have E1 : Hid (levelTo d.cmds (k + 1) = lev) := Lib.hid (by rw [HLS.out, if_neg e7, if_neg e8, HLV.out])
                              clear HLS HLV e7 e8
                              go_wp2_with fail
                              exact ⟨⟨k + 1, by omega, by go_num, by rw [E1.out], HC2, Lib.hid (HE6.out.drewN _)⟩, by simp [intOf]; omega⟩
                · obtain rfl : k = d.cmds.length := by omega
                  have HLO : Hid (LoadOk d) := Lib.hid ⟨H2.out, HSA.out.1, HSA.out.2.1, HSA.out.2.2, HFA.out, fun j t ht => HTA.out j t (List.getElem?_eq_some_iff.1 ht).1 ht, fun j c hc => HC.out.2.2 j c (List.getElem?_eq_some_iff.1 hc).1 hc⟩
                  clear hlt
                  generalize levelTo d.cmds d.cmds.length = lev at *
                  go_wp2_with fail
                  go_ret
                  exact ⟨true, rfl, fun _ => HLO.out, HALL.out⟩
end
end Go.Proofs.YtfpmapbimhdafaaGreatDoor
