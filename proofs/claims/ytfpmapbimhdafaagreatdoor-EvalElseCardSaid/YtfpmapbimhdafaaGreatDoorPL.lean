/- Contracts: a term's place in the reference's arena. -/
import Derived.Test.YtfpmapbimhdafaaGreatDoorPK
namespace Go.Proofs.YtfpmapbimhdafaaGreatDoor
open Go.RowKit
set_option linter.unusedVariables false
set_option linter.unusedSimpArgs false

/-- None of the first k is this one. -/
def NoTerm (l : List Term) (t : Term) (k : Nat) : Prop := ∀ (j : Nat) (x : Term), j < k → l[j]? = some x → x ≠ t
theorem NoTerm.step {l : List Term} {t : Term} {k : Nat} {y : Term} (h : NoTerm l t k) (hy : l[k]? = some y) (hn : y ≠ t) : NoTerm l t (k + 1) := fun j x hj hx => by
  by_cases e : j = k
  · subst e
    obtain rfl := Option.some.inj (hy.symm.trans hx)
    exact hn
  · exact h j x (by omega) hx
/-- What comes of a term. -/
def TermRes (S : RSt) (t : Term) (a k : Int) (S' : RSt) : Prop :=
  k = 0 → TermOk S.funs S.terms.length S.ofs (constsTo S.terms S.terms.length) t ∧ ((∃ i : Nat, a = i ∧ i < S.terms.length) ∨ (a = S.terms.length ∧ (∀ x ∈ S.terms, x ≠ t) ∧ S' = { S with terms := S.terms ++ [t], ofs := S.ofs ++ [resultT S.funs S.ofs t] }))

section
variable {w : World} {O : Nat → Prop} {p : Nat} {A : RV} {S : RSt}
theorem r_result_wf (h : RA w O p A S) {n : Nat} {t : Term} {consts : List Bool} (hok : TermOk S.funs n S.ofs consts t) (hlo : S.ofs.length = n) : (Lit.int .i64 (resultT S.funs S.ofs t)).wf = true := by
  unfold resultT
  split
  · rename_i e3
    obtain ⟨a1, a2, a3⟩ := hok.app e3
    obtain ⟨k, hk⟩ : ∃ k : Nat, t.fn = (k : Int) := ⟨t.fn.toNat, by omega⟩
    rw [hk] at a2 ⊢
    obtain ⟨f, hf⟩ := at_some (show k < S.funs.length by omega)
    rw [funAt_eq hf]
    obtain ⟨g, c, hT⟩ := h.funs.form (by omega)
    have hfuns := h.funs
    rw [hT] at hfuns
    obtain ⟨_, _, _, _, _, hw⟩ := hfuns.fun_at hf
    exact hw
  · split
    · rename_i e10
      obtain ⟨q1, _⟩ := hok.kidN (k := 1) (by have := hok.three e10; omega)
      obtain ⟨g, c, hT⟩ := h.ofs.form (by omega)
      have hofs := h.ofs
      rw [hT] at hofs
      exact (hofs.int_at (by omega)).2
    · split <;> decide

attribute [local go_sem] undef in

set_option maxRecDepth 100000 in
set_option maxHeartbeats 4000000 in
theorem c_rTerm (h : RA w O p A S) (t : Term) (vt : Value) (ht : kTerm.agg w O t vt) (hb : BackOk S.terms) (hlo : S.ofs.length = S.terms.length) (hfl : S.funs.length ≤ 1000) (hn : S.terms.length ≤ 1000) (hkl : t.kids.length ≤ 1000) :
    Calls Tryz.prog 27 #[ptr p, vt] w fun e w' => ∃ (a k : Int), e = .returned (.tuple #[.int .i64 a, .int .i64 k]) ∧ ∃ A' O' S', RA w' O' p A' S' ∧ Gr O w O' w' ∧ TermRes S t a k S' := by
  obtain ⟨op, fn, kids, num⟩ := t
  have ht0 := ht
  obtain ⟨B, d, rfl, HK, hkm, hk⟩ := tm_open ht
  have H := Lib.hid h
  have HT := Lib.hid ht0
  have HB := Lib.hid hb
  have HLO := Lib.hid hlo
  have HE0 : Hid (Ext NoB w (w.alloc (.cells #[.int .i64 op, .int .i64 fn, .slice B kids.length d, .string num] 63))) := Lib.hid ((Ext.refl NoB w).alloc _)
  have HOLD := Lib.hid h.old
  simp only at hkl hkm HK
  clear h ht ht0 hb hlo hk
  unfold ptr
  go_enter Tryz.func27, Tryz.ntmps27
  go_wp2_with fail
  refine (c_Wrong (H.out.ext HE0.out) op fn kids num _ (kTerm.aggExt HT.out HE0.out.no) HB.out HLO.out hfl hn hkl).mono ?_
  rintro e w1 ⟨k, s, rfl, he, hres⟩
  have HE1 := Lib.hid (HE0.out.trans he)
  have HRES := Lib.hid hres
  have x0 : w1.cell? ⟨w.heap.size, 0, none⟩ = some (.int .i64 op) := he.cell (by go_simp) (fun h => h)
  have x1 : w1.cell? ⟨w.heap.size, 1, none⟩ = some (.int .i64 fn) := he.cell (by go_simp) (fun h => h)
  have x2 : w1.cell? ⟨w.heap.size, 2, none⟩ = some (.slice B kids.length d) := he.cell (by go_simp) (fun h => h)
  have x3 : w1.cell? ⟨w.heap.size, 3, none⟩ = some (.string num) := he.cell (by go_simp) (fun h => h)
  clear he hres
  by_cases hk0 : k = 0
  · subst hk0
    have HOK := Lib.hid (HRES.out rfl).1
    have HS := Lib.hid (HRES.out rfl).2
    have HWF : Hid ((Lit.int .i64 s).wf = true) := Lib.hid (by rw [HS.out]; exact r_result_wf H.out HOK.out HLO.out)
    clear HRES
    obtain ⟨Tt, ttc, hTt, _, _⟩ := H.out.terms.shape
    have c2 : w1.cell? ⟨p, 2, none⟩ = some (.slice Tt S.terms.length ttc) := by have := HE1.out.cell H.out.c2 (fun h => h); rwa [hTt] at this
    have HTt := Lib.hid hTt
    clear hTt
    go_wp2_with fail
    go_loopw [8] (fun i wr => ∃ k : Nat, k ≤ S.terms.length ∧ i = .int .i64 k ∧ Hid (NoTerm S.terms ⟨op, fn, kids, num⟩ k ∧ Ext NoB w1 wr)) (fun i _ => S.terms.length - (intOf i).toNat)
    case atStart => exact ⟨0, Nat.zero_le _, rfl, Lib.hid ⟨fun j x hj => by omega, Ext.refl _ _⟩⟩
    case round =>
      obtain ⟨k, hk, rfl, HR⟩ := hrel
      have HEr := Lib.hid (HE1.out.trans HR.out.2)
      replace x0 := HR.out.2.cell x0 (fun h => h)
      replace x1 := HR.out.2.cell x1 (fun h => h)
      replace x2 := HR.out.2.cell x2 (fun h => h)
      replace x3 := HR.out.2.cell x3 (fun h => h)
      replace c2 := HR.out.2.cell c2 (fun h => h)
      by_cases hlt : k < S.terms.length
      · obtain ⟨y, hy⟩ := at_some hlt
        obtain ⟨g, gc, hv⟩ := H.out.terms.form (by omega)
        obtain rfl : Tt = some ⟨g, 0, none⟩ := by
          have := HTt.out.symm.trans hv
          injection this
        have hte := H.out.terms
        rw [hv] at hte
        obtain ⟨Ya, yd, ⟨y0, y1, y2, y3⟩, hyk, w0, w1', w3⟩ := hte.term_at hy
        replace y0 := HEr.out.cell y0 (fun h => h)
        replace y1 := HEr.out.cell y1 (fun h => h)
        replace y2 := HEr.out.cell y2 (fun h => h)
        replace y3 := HEr.out.cell y3 (fun h => h)
        have HY := Lib.hid hy
        have HTY : Hid (kTerm.agg wr.drew O y (.agg #[.int .i64 y.op, .int .i64 y.fn, .slice Ya y.kids.length yd, .string y.num])) := Lib.hid ⟨_, rfl, kTerm_iff.2 ⟨_, rfl, w0, w1', kInts.oneExt hyk HEr.out.drew.no, w3⟩⟩
        have HTT : Hid (kTerm.agg wr.drew O ⟨op, fn, kids, num⟩ (.agg #[.int .i64 op, .int .i64 fn, .slice B kids.length d, .string num])) := Lib.hid (kTerm.aggExt HT.out HEr.out.drew.no)
        have HST : Hid (wr.drew.cell? ⟨w.heap.size, 0, none⟩ = some (.int .i64 op) ∧ wr.drew.cell? ⟨w.heap.size, 1, none⟩ = some (.int .i64 fn) ∧ wr.drew.cell? ⟨w.heap.size, 2, none⟩ = some (.slice B kids.length d) ∧ wr.drew.cell? ⟨w.heap.size, 3, none⟩ = some (.string num) ∧ wr.drew.cell? ⟨p, 2, none⟩ = some (.slice (some ⟨g, 0, none⟩) S.terms.length ttc) ∧ wr.drew.cell? ⟨g, k * 4, none⟩ = some (.int .i64 y.op) ∧ wr.drew.cell? ⟨g, k * 4 + 1, none⟩ = some (.int .i64 y.fn) ∧ wr.drew.cell? ⟨g, k * 4 + 2, none⟩ = some (.slice Ya y.kids.length yd) ∧ wr.drew.cell? ⟨g, k * 4 + 3, none⟩ = some (.string y.num)) := Lib.hid ⟨x0, x1, x2, x3, c2, y0, y1, y2, y3⟩
        have g1 : (k : Int) < (S.terms.length : Int) := by omega
        clear hv hte hyk w0 w1' w3 y0 y1 y2 y3 hy
        go_wp2_with fail
        refine wpM_begin (fun W => W.cell? ⟨w.heap.size, 0, none⟩ = some (.int .i64 op) ∧ W.cell? ⟨w.heap.size, 1, none⟩ = some (.int .i64 fn) ∧ W.cell? ⟨w.heap.size, 2, none⟩ = some (.slice B kids.length d) ∧ W.cell? ⟨w.heap.size, 3, none⟩ = some (.string num) ∧ W.cell? ⟨p, 2, none⟩ = some (.slice (some ⟨g, 0, none⟩) S.terms.length ttc) ∧ W.cell? ⟨g, k * 4, none⟩ = some (.int .i64 y.op) ∧ W.cell? ⟨g, k * 4 + 1, none⟩ = some (.int .i64 y.fn) ∧ W.cell? ⟨g, k * 4 + 2, none⟩ = some (.slice Ya y.kids.length yd) ∧ W.cell? ⟨g, k * 4 + 3, none⟩ = some (.string y.num)) [] [0, 1, 2, 3, 4, 5, 6, 7, 8] (by kernel_rfl) (by kernel_rfl) (HST.out) (fun hS0 hA => ?_)
        refine wpM_free 0 rfl (by kernel_rfl) rfl (by intro w; go_simp; try rfl) ?_; (try simp only [Act.put, List.setIfInBounds_toArray, List.set_cons_zero, List.set_cons_succ])
        refine wpM_free 1 rfl (by kernel_rfl) rfl (by intro w; go_simp; try rfl) ?_; (try simp only [Act.put, List.setIfInBounds_toArray, List.set_cons_zero, List.set_cons_succ])
        refine wpM_free 2 rfl (by kernel_rfl) rfl (by intro w; go_simp; try rfl) ?_; (try simp only [Act.put, List.setIfInBounds_toArray, List.set_cons_zero, List.set_cons_succ])
        refine wpM_take 3 hA hS0 rfl (by kernel_rfl) rfl (by intro w hs; (try dsimp only at hs); go_simp; try rfl) ?_; (try simp only [Act.put, List.setIfInBounds_toArray, List.set_cons_zero, List.set_cons_succ])
        refine wpM_free 4 rfl (by kernel_rfl) rfl (by intro w; go_simp; try rfl) ?_; (try simp only [Act.put, List.setIfInBounds_toArray, List.set_cons_zero, List.set_cons_succ])
        refine wpM_free 5 rfl (by kernel_rfl) rfl (by intro w; go_simp; try rfl) ?_; (try simp only [Act.put, List.setIfInBounds_toArray, List.set_cons_zero, List.set_cons_succ])
        refine wpM_take 6 hA hS0 rfl (by kernel_rfl) rfl (by intro w hs; (try dsimp only at hs); go_simp; try rfl) ?_; (try simp only [Act.put, List.setIfInBounds_toArray, List.set_cons_zero, List.set_cons_succ])
        refine wpM_take 7 hA hS0 rfl (by kernel_rfl) rfl (by intro w hs; (try dsimp only at hs); go_simp; try rfl) ?_; (try simp only [Act.put, List.setIfInBounds_toArray, List.set_cons_zero, List.set_cons_succ])
        refine wpM_only 8 rfl (by kernel_rfl) (fun K hK => ?_)
        go_simp
        refine (c_rSame y ⟨op, fn, kids, num⟩ _ _ _ O HTY.out HTT.out).mono ?_
        rintro e w3 ⟨b, rfl, hbb, hq3⟩
        have HBB := Lib.hid hbb
        clear hbb
        refine hK.out _ _ ?_ (fun hS1 => ?_)
        · exact ⟨hq3.cell hS0.1 id, hq3.cell hS0.2.1 id, hq3.cell hS0.2.2.1 id, hq3.cell hS0.2.2.2.1 id, hq3.cell hS0.2.2.2.2.1 id, hq3.cell hS0.2.2.2.2.2.1 id, hq3.cell hS0.2.2.2.2.2.2.1 id, hq3.cell hS0.2.2.2.2.2.2.2.1 id, hq3.cell hS0.2.2.2.2.2.2.2.2 id⟩
        clear hS0 hK K; (try simp only [Act.put, List.setIfInBounds_toArray, List.set_cons_zero, List.set_cons_succ])
        refine wpM_done (by kernel_rfl) ?_
        clear hS1
        have HE3 := Lib.hid (HEr.out.trans ((Ext.refl NoB wr).drew.trans hq3))
        have HR3 := Lib.hid (HR.out.2.trans ((Ext.refl NoB wr).drew.trans hq3))
        clear hq3
        cases b with
        | true =>
          go_wp2_with fail
          go_ret2
          exact ⟨_, _, rfl, A, O, S, H.out.ext HE3.out, Gr.of HE3.out, fun _ => ⟨HOK.out, .inl ⟨k, rfl, hlt⟩⟩⟩
        | false =>
          have HN2 := Lib.hid (HR.out.1.step HY.out (HBB.out rfl))
          go_wp2_with fail
          exact ⟨⟨k + 1, by omega, by go_num, Lib.hid ⟨HN2.out, HR3.out⟩⟩, by simp [intOf]; omega⟩
      · obtain rfl : k = S.terms.length := by omega
        have HNO : Hid (∀ x ∈ S.terms, x ≠ ⟨op, fn, kids, num⟩) := Lib.hid (fun x hx => by
          obtain ⟨j, hj⟩ := List.getElem?_of_mem hx
          exact HR.out.1 j x (List.getElem?_eq_some_iff.1 hj).1 hj)
        obtain ⟨most, hmost, c4⟩ : ∃ most : Int, decide (most ≤ (S.terms.length : Int)) = false ∧ wr.cell? ⟨p, 4, none⟩ = some (.int .i64 most) := ⟨1048576, of_ndec (by omega), HEr.out.cell H.out.c4 (fun h => h)⟩
        clear hk hlt HR
        go_wp2_with fail
        go_quiet (fail)
        go_wp2_with fail
        have HE6 := Lib.hid (HEr.out.trans (Dr.n wr nq).ext)
        have HA6 := Lib.hid (H.out.ext HE6.out.drew)
        have HT6 := Lib.hid (kTerm.aggExt HT.out (HE6.out.drew.no))
        have HST : Hid ((wr.drewN nq).drew.cell? ⟨p, 2, none⟩ = some (.slice Tt S.terms.length ttc) ∧ (wr.drewN nq).drew.cell? ⟨w.heap.size, 0, none⟩ = some (.int .i64 op) ∧ (wr.drewN nq).drew.cell? ⟨w.heap.size, 1, none⟩ = some (.int .i64 fn) ∧ (wr.drewN nq).drew.cell? ⟨w.heap.size, 2, none⟩ = some (.slice B kids.length d) ∧ (wr.drewN nq).drew.cell? ⟨w.heap.size, 3, none⟩ = some (.string num)) := Lib.hid ⟨c2, x0, x1, x2, x3⟩
        clear c2 c4 x0 x1 x2 x3 hmost
        generalize wr.drewN nq = w5 at *
        refine wpM_begin (fun W => W.cell? ⟨p, 2, none⟩ = some (.slice Tt S.terms.length ttc) ∧ W.cell? ⟨w.heap.size, 0, none⟩ = some (.int .i64 op) ∧ W.cell? ⟨w.heap.size, 1, none⟩ = some (.int .i64 fn) ∧ W.cell? ⟨w.heap.size, 2, none⟩ = some (.slice B kids.length d) ∧ W.cell? ⟨w.heap.size, 3, none⟩ = some (.string num)) [7, 10] [1, 2, 3, 4, 5, 6] (by kernel_rfl) (by kernel_rfl) (HST.out) (fun hS0 hA => ?_)
        refine wpM_free 0 rfl (by kernel_rfl) rfl (by intro w; go_simp; try rfl) ?_; (try simp only [Act.put, List.setIfInBounds_toArray, List.set_cons_zero, List.set_cons_succ])
        refine wpM_free 1 rfl (by kernel_rfl) rfl (by intro w; go_simp; try rfl) ?_; (try simp only [Act.put, List.setIfInBounds_toArray, List.set_cons_zero, List.set_cons_succ])
        refine wpM_free 2 rfl (by kernel_rfl) rfl (by intro w; go_simp; try rfl) ?_; (try simp only [Act.put, List.setIfInBounds_toArray, List.set_cons_zero, List.set_cons_succ])
        refine wpM_free 3 rfl (by kernel_rfl) rfl (by intro w; go_simp; try rfl) ?_; (try simp only [Act.put, List.setIfInBounds_toArray, List.set_cons_zero, List.set_cons_succ])
        refine wpM_take 4 hA hS0 rfl (by kernel_rfl) rfl (by intro w hs; (try dsimp only at hs); go_simp; try rfl) ?_; (try simp only [Act.put, List.setIfInBounds_toArray, List.set_cons_zero, List.set_cons_succ])
        refine wpM_take 5 hA hS0 rfl (by kernel_rfl) rfl (by intro w hs; (try dsimp only at hs); go_simp; try rfl) ?_; (try simp only [Act.put, List.setIfInBounds_toArray, List.set_cons_zero, List.set_cons_succ])
        refine wpM_only 6 rfl (by kernel_rfl) (fun K hK => ?_)
        go_simp
        refine hK.out _ _ ?_ (fun hS1 => ?_)
        · exact ⟨((Ext.refl NoB _).alloc _).cell hS0.1 id, ((Ext.refl NoB _).alloc _).cell hS0.2.1 id, ((Ext.refl NoB _).alloc _).cell hS0.2.2.1 id, ((Ext.refl NoB _).alloc _).cell hS0.2.2.2.1 id, ((Ext.refl NoB _).alloc _).cell hS0.2.2.2.2 id⟩
        clear hS0 hK K; (try simp only [Act.put, List.setIfInBounds_toArray, List.set_cons_zero, List.set_cons_succ])
        refine wpM_last 7 rfl (by kernel_rfl) (by decide) (fun K hK => ?_)
        have ho5 : Own w5.drew 0 63 kTerm O (.slice Tt S.terms.length ttc) S.terms := by have := HA6.out.terms; rwa [HTt.out] at this
        have hx5 : kTerm.rep w5.drew (PlusV O (.slice Tt S.terms.length ttc)) ⟨op, fn, kids, num⟩ [.int .i64 op, .int .i64 fn, .slice B kids.length d, .string num] := by
          obtain ⟨_, _, hvf, hkk, wa, wb, wc⟩ := term_open HT6.out
          injection hvf with hvf
          simp only [Array.mk.injEq, List.cons.injEq, Value.slice.injEq, and_true, true_and] at hvf
          obtain ⟨rfl, rfl⟩ := hvf
          exact kTerm_iff.2 ⟨_, rfl, wa, wb, kInts.oneKeep hkk (Ext.refl O _) (fun b hb h' => h'.elim id (fun e => HA6.out.mo b (RV.mem _ p (i := 3) (by rw [RV.at3]; exact congrArg some (HTt.out ▸ e))))), wc⟩
        have hold5 : ∀ b, O b → b < w5.drew.heap.size := HA6.out.old
        refine step_append1H kTerm (by decide) w5.heap.size (by rfl) rfl (.tmp 51) (.tmp 53) 24 rfl 0 63 _ 56 Tryz.underlying24 info_Term rfl O (.slice Tt S.terms.length ttc) rfl S.terms ho5 rfl ⟨op, fn, kids, num⟩ [_, _, _, _] hx5 hold5 (by omega) (by omega) (Nat.zero_le _) ?_
        intro v2 w2 hO2 hE2 hat2
        obtain ⟨T2, c2, hv, -, -⟩ := hO2.shape
        rw [List.length_append, List.length_singleton] at hv
        subst hv
        have hTb : (Value.slice Tt S.terms.length ttc).ownBlock = A.tv.ownBlock := by rw [HTt.out]
        rw [hTb] at hat2
        have HO2 := Lib.hid hO2
        have HE3 : Hid (Ext (fun b => A.tv.ownBlock = some b) w5.drew w2) := Lib.hid (hTb ▸ hE2)
        have HV2 := Lib.hid hat2
        have X3 := HE3.out.cell HA6.out.c2 (fun e => HA6.out.ne (RV.at3 _ p) (RV.at0 _ p) (by decide) e rfl)
        have F3 := (HE3.out.frozen HA6.out.pl (fun e => HA6.out.ne (RV.at3 _ p) (RV.at0 _ p) (by decide) e rfl)).trans (HA6.out.fz 2)
        clear hO2 hE2 hat2 hTb ho5 hx5 hold5
        refine hK.out _ _ ?_
        clear hK K; (try simp only [Act.put, List.setIfInBounds_toArray, List.set_cons_zero, List.set_cons_succ])
        refine wpM_free 8 rfl (by kernel_rfl) rfl (by intro w; go_simp; try rfl) ?_; (try simp only [Act.put, List.setIfInBounds_toArray, List.set_cons_zero, List.set_cons_succ])
        refine wpM_free 9 rfl (by kernel_rfl) rfl (by intro w; go_simp; try rfl) ?_; (try simp only [Act.put, List.setIfInBounds_toArray, List.set_cons_zero, List.set_cons_succ])
        refine wpM_last 10 rfl (by kernel_rfl) (by decide) (fun K hK => ?_)
        go_simp
        refine hK.out _ _ ?_
        clear hK K; (try simp only [Act.put, List.setIfInBounds_toArray, List.set_cons_zero, List.set_cons_succ])
        refine wpM_done (by kernel_rfl) ?_
        have ht := HA6.out.turn_tv HE3.out HV2.out HO2.out
        have HW := Lib.hid ht.1
        have HG := Lib.hid (((Gr.of HE6.out).trans (Gr.of (Ext.refl NoB w5).drew)).trans (HA6.out.gr_turn (RV.at3 _ p) HA6.out.po ht.2 HV2.out))
        clear ht X3 F3
        generalize w2.setCell ⟨p, 2, none⟩ (.slice T2 (S.terms.length + 1) c2) = wc at *
        obtain ⟨Tv, tvc, htv, _, _⟩ := HW.out.ofs.shape
        have c3 := HW.out.c3
        rw [htv] at c3
        have ho := HW.out.ofs
        rw [htv] at ho
        have HO := Lib.hid ho
        have HTV := Lib.hid htv
        have hol : S.ofs.length ≤ 1000 := by have := HLO.out; omega
        clear htv ho
        go_wp2_with (at_builtin; refine wpl_append1H kInt (by decide) wc.heap.size (by rfl) rfl (.tmp 61) (.tmp 63) 28 rfl 0 3 _ 8 Tryz.underlying28 info_int rfl _ (.slice Tv S.ofs.length tvc) rfl S.ofs HO.out rfl s [_] ⟨rfl, HWF.out⟩ HW.out.old (by omega) (by omega) (Nat.zero_le _) ?_; intro v3 w3 hO3 hE3 hat3; (obtain ⟨T3, c5, hv, -, -⟩ := hO3.shape); rw [List.length_append, List.length_singleton] at hv; subst hv; (have HO3 := Lib.hid hO3); (have HE4 := Lib.hid hE3); (have HV3 := Lib.hid hat3); (have X1 := HE4.out.cell HW.out.c3 (fun e => HW.out.ne (RV.at4 _ p) (RV.at0 _ p) (by decide) (HTV.out ▸ e) rfl)); (have X2 := HE4.out.cell HW.out.c2 (fun e => HW.out.ne (RV.at4 _ p) (RV.at0 _ p) (by decide) (HTV.out ▸ e) rfl)); (have F1 := (HE4.out.frozen HW.out.pl (fun e => HW.out.ne (RV.at4 _ p) (RV.at0 _ p) (by decide) (HTV.out ▸ e) rfl)).trans (HW.out.fz 3)); clear hO3 hE3 hat3)
        go_ret2
        have ht := HW.out.turn_ov (by rw [HTV.out]; exact HE4.out) (by rw [HTV.out]; exact HV3.out) HO3.out
        refine ⟨_, _, rfl, _, _, _, ht.1, HG.out.trans (HW.out.gr_turn (RV.at4 _ p) HW.out.po ht.2 (by rw [HTV.out]; exact HV3.out)), fun _ => ⟨HOK.out, .inr ⟨by simp, HNO.out, ?_⟩⟩⟩
        rw [HS.out]
  · have hk1 : (k != 0) = true := by rw [bne_iff_ne]; exact hk0
    go_wp2_with fail
    go_ret2
    exact ⟨_, _, rfl, A, O, S, H.out.ext HE1.out, Gr.of HE1.out, fun e => absurd e hk0⟩
end
end Go.Proofs.YtfpmapbimhdafaaGreatDoor
