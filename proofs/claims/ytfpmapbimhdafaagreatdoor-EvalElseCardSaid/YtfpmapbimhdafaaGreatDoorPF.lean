/- Contracts: a term added to an arena. -/
import Derived.Test.YtfpmapbimhdafaaGreatDoorPE
import Derived.Test.YtfpmapbimhdafaaGreatDoorPA
import Derived.Laws.EntriesVeiled
import Derived.WideMake
import Derived.Shelf.Strconv.Itoa1
import Derived.Shelf.Lay
import Derived.Ground.NamesProg
import Derived.Lib.AppendStr
import Derived.Laws.IdiomStrings
namespace Go.Proofs.YtfpmapbimhdafaaGreatDoor
open Go.RowKit
set_option linter.unusedVariables false
set_option linter.unusedSimpArgs false

theorem step_append1H {P : Program} {ops : Array Oper} {o : Oper} {a : Act} {K : Act → World → Prop} {Q : Exit → Act → World → Prop} {E : Prop} {α : Type} (k : Kd α) (pos : 0 < k.size) {W : World} (H : Nat) (hH : W.heap.size = H) (hgd : o.guard = none) (s x : Operand) (t : TypeId)
    (ho : o.op = .call { callee := .builtin .append, args := #[s, x], argTypes := #[t, t] })
    (base : Nat) (e : TypeId) (z : Value) (bytes : Nat) (ht : P.underlying t = some (.slice e))
    (hinfo : (P.info? e).map (fun i => (i.zero, i.size, i.bytes)) = some (some z, k.size, bytes)) (hzs : z.cells.size = k.size) (O : Nat → Prop)
    (v : Value) (hs : a.eval s = v) (xs : List α) (hown : Own W base e k O v xs) (hx : a.eval x = .slice (some ⟨H, 0, none⟩) 1 1) (y : α) (cs : List Value) (hy : k.rep W (PlusV O v) y cs) (hO : ∀ b, O b → b < W.heap.size)
    (hb0 : 0 < bytes) (hbytes : (xs.length + 1) * bytes ≤ 140737488355328) (hbase : base ≤ W.heap.size)
    (h : ∀ v' w', Own w' base e k O v' (xs ++ [y]) → Ext (fun b => v.ownBlock = some b) W w' → (v'.ownBlock = v.ownBlock ∨ ∃ g, v'.ownBlock = some g ∧ W.heap.size ≤ g) → K (a.put o.dst v') w') :
    if Region.wanted o (yielded ops a.tmps) = true then Oper.wp P o a (W.alloc (.cells cs.toArray e)) K Q else E :=
  step_append1 k pos hgd s x t ho base e z bytes ht hinfo hzs O v hs xs hown (hH ▸ hx) y cs hy hO hb0 hbytes hbase h

section
variable {w : World} {O : Nat → Prop} {p : Nat} {A : AV} {S : St}
theorem info_ints : (Tryz.prog.info? 28).map (fun i => (i.zero, i.size, i.bytes)) = some (some (.slice none 0 0), 1, 24) := by kernel_rfl
/-- What an arena's turn is to all else. -/
def Gr (O : Nat → Prop) (w : World) (O' : Nat → Prop) (w' : World) : Prop := Ext O w w' ∧ ∀ b, b < w.heap.size → O' b → O b
theorem Gr.trans {O1 O2 O3 : Nat → Prop} {a b c : World} (h : Gr O1 a O2 b) (k : Gr O2 b O3 c) : Gr O1 a O3 c :=
  ⟨h.1.then k.1 fun i hi hO => h.2 i hi hO, fun i hi hO => h.2 i hi (k.2 i (Nat.lt_of_lt_of_le hi h.1.size) hO)⟩
theorem Gr.ext {O1 O2 : Nat → Prop} {a b c : World} (h : Gr O1 a O2 b) (k : Ext NoB b c) : Gr O1 a O2 c := ⟨h.1.trans k.no, h.2⟩
theorem Arena.gr_turn (h : Arena w O p A S) {i g : Nat} {v v' : Value} (hi : (A.own p)[i]? = some v.ownBlock) (hg : O g) {w' : World} (he : Ext (fun b => v.ownBlock = some b ∨ b = g) w w') (hv : v'.ownBlock = v.ownBlock ∨ ∃ g, v'.ownBlock = some g ∧ w.heap.size ≤ g) : Gr O w (PlusV O v') w' :=
  ⟨he.mono fun b hb h' => h'.elim (fun e => h.mo b (A.mem p (i := i) (by rw [hi, e]))) (fun e => e ▸ hg), fun b hb h' => h'.elim id fun e => by
    rcases hv with hv | ⟨g, hg, hgl⟩
    · exact h.mo b (A.mem p (i := i) (by rw [hi, ← hv, e]))
    · rw [hg] at e
      injection e with e
      omega⟩
theorem Gr.of {a b : World} (k : Ext NoB a b) : Gr O a O b := ⟨k.no, fun _ _ h => h⟩

theorem wf_i {n : Int} (h0 : -9223372036854775808 ≤ n) (h1 : n ≤ 9223372036854775807) : (Lit.int .i64 n).wf = true := by
  have h2 : IntKind.i64.min = -9223372036854775808 := by decide
  have h3 : IntKind.i64.max = 9223372036854775807 := by decide
  simp only [Lit.wf, h2, h3, Bool.and_eq_true, decide_eq_true_eq]
  omega
theorem result_wf (h : Arena w O p A S) {n : Nat} {t : Term} (hok : TermOk S.funs n S.ofs S.consts t) (hlo : S.ofs.length = n) : (Lit.int .i64 (resultT S.funs S.ofs t)).wf = true := by
  unfold resultT
  split
  · rename_i e3
    obtain ⟨a1, a2, a3⟩ := hok.app e3
    obtain ⟨k, hk⟩ : ∃ k : Nat, t.fn = (k : Int) := ⟨t.fn.toNat, by omega⟩
    rw [hk] at a2 ⊢
    obtain ⟨f, hf⟩ := at_some (show k < S.funs.length by omega)
    rw [funAt_eq hf]
    obtain ⟨g, c, hT⟩ := h.funs.form (by omega)
    have hfuns := h.funs
    rw [hT] at hfuns
    obtain ⟨_, _, _, _, _, hw⟩ := hfuns.fun_at hf
    exact hw
  · split
    · rename_i e10
      obtain ⟨q1, _⟩ := hok.kidN (k := 1) (by have := hok.three e10; omega)
      obtain ⟨g, c, hT⟩ := h.ofs.form (by omega)
      have hofs := h.ofs
      rw [hT] at hofs
      exact (hofs.int_at (by omega)).2
    · split <;> decide

attribute [local go_sem] undef in
set_option maxRecDepth 100000 in
set_option maxHeartbeats 2000000 in
theorem c_add (h : Arena w O p A S) (t : Term) (vt : Value) (ht : kTerm.agg w O t vt) (hash : Int) (h0 : 0 ≤ hash) (h1 : hash ≤ 18446744073709551615) (hok : TermOk S.funs S.terms.length S.ofs S.consts t) (hlo : S.ofs.length = S.terms.length) (hlc : S.consts.length = S.terms.length) (hn : S.terms.length ≤ 500) :
    Calls Tryz.prog 105 #[ptr p, vt, .int .u64 hash] w fun e w' => ∃ A' O', e = .returned (.int .i64 (S.terms.length : Int)) ∧ Arena w' O' p A' { S with terms := S.terms ++ [t], ofs := S.ofs ++ [resultT S.funs S.ofs t], consts := S.consts ++ [constT S.consts t] } ∧ Gr O w O' w' := by
  obtain ⟨B, d, rfl, HK, w0, w1', w3⟩ := term_open ht
  have hW0 : Ext NoB w (w.alloc (.cells #[.int .i64 t.op, .int .i64 t.fn, .slice B t.kids.length d, .string t.num] 63)) := (Ext.refl _ _).alloc _
  have HA0 := Lib.hid (h.ext hW0)
  have HG0 := Lib.hid (Gr.of (O := O) hW0)
  have HT := Lib.hid (kTerm.aggExt ht hW0.no)
  have HOK := Lib.hid hok
  have HB0 : Hid ((w.alloc (.cells #[.int .i64 t.op, .int .i64 t.fn, .slice B t.kids.length d, .string t.num] 63)).cell? ⟨w.heap.size, 0, none⟩ = some (.int .i64 t.op) ∧ (w.alloc (.cells #[.int .i64 t.op, .int .i64 t.fn, .slice B t.kids.length d, .string t.num] 63)).cell? ⟨w.heap.size, 1, none⟩ = some (.int .i64 t.fn) ∧ (w.alloc (.cells #[.int .i64 t.op, .int .i64 t.fn, .slice B t.kids.length d, .string t.num] 63)).cell? ⟨w.heap.size, 2, none⟩ = some (.slice B t.kids.length d) ∧ (w.alloc (.cells #[.int .i64 t.op, .int .i64 t.fn, .slice B t.kids.length d, .string t.num] 63)).cell? ⟨w.heap.size, 3, none⟩ = some (.string t.num) ∧ ¬ O w.heap.size) :=
    ⟨by go_simp, by go_simp, by go_simp, by go_simp, fun hO => absurd (h.old _ hO) (Nat.lt_irrefl _)⟩
  have c4 := (h.ext hW0).c4
  obtain ⟨T, c, hT, _, _⟩ := h.terms.shape
  rw [hT] at c4
  have HLEN : Hid (∀ {l : List (Value × List Int)}, l = A.bs → Hid (∀ b ∈ l, b.2.length ≤ S.terms.length)) := Lib.hid (fun e => Lib.hid (by rw [e]; exact fun b hb => (h.ins b hb).2.2))
  clear h ht hok HK hW0 hT
  unfold ptr
  go_enter Tryz.func105, Tryz.ntmps105
  go_upto_region 2 with fail
  clear c4
  generalize w.alloc (.cells #[.int .i64 t.op, .int .i64 t.fn, .slice B t.kids.length d, .string t.num] 63) = W0 at *
  go_cut [] from 17 to 26 (fun wx => ∃ A1 O1, Hid (Arena wx O1 p A1 { S with terms := S.terms ++ [t] } ∧ Gr O W0 O1 wx ∧ A1.bs = A.bs))
  case first =>
    obtain ⟨sv, r, fv, tv, ov, cv, bv, bs⟩ := A
    have hA := HA0.out
    obtain ⟨T, c, hT, _, _⟩ := hA.terms.shape
    simp only at hT
    subst hT
    have HW := Lib.hid (hA.ext (Ext.refl NoB W0).drew)
    obtain ⟨b0, b1, b2, b3, bn⟩ := HB0.out
    have c4 := hA.c4
    have lp := hA.pl
    simp only at c4
    obtain ⟨A5, d5, hv5, HK5, u0, u1, u3⟩ := term_open HT.out
    injection hv5 with hv5
    simp at hv5
    obtain ⟨rfl, rfl⟩ := hv5
    have HR := Lib.hid (kTerm.keep (kTerm_iff.2 ⟨_, rfl, u0, u1, HK5, u3⟩ : kTerm.rep W0 O t _) (w' := W0.drew) (O' := PlusV O (.slice T S.terms.length c)) (fun b hb hn => ⟨fun h' => hn (h'.elim id (fun e => hA.mo b (AV.mem _ p (i := 4) (by rw [AV.at4]; exact congrArg some e)))), rfl⟩))
    clear hA HK5 bn
    go_region_law (first
      | (refine step_append1H kTerm (by decide) W0.heap.size (by simp) rfl (.tmp 21) (.tmp 23) 24 rfl 0 63 _ 56 Tryz.underlying24 info_Term rfl O _ rfl S.terms HW.out.terms rfl t [_, _, _, _] HR.out HW.out.old (by omega) (by omega) (Nat.zero_le _) ?_; intro v2 w2 hO2 hE2 hat2; (obtain ⟨T2, c2, hv, -, -⟩ := hO2.shape); rw [List.length_append, List.length_singleton] at hv; subst hv; (have HO2 := Lib.hid hO2); (have HE2 := Lib.hid hE2); (have HV2 := Lib.hid hat2);
          (have X4 := hE2.cell HW.out.c4 (fun e => HW.out.ne (AV.at4 _ p) (Arena.at0 _ p) (by decide) e rfl)); (have F4 := (hE2.frozen HW.out.pl (fun e => HW.out.ne (AV.at4 _ p) (Arena.at0 _ p) (by decide) e rfl)).trans (HW.out.fz 4)); clear hO2 hE2 hat2))
    all_goals
      have ht := Lib.hid (HW.out.turn_tv HE2.out HV2.out HO2.out (by simp))
      go_wp2_with fail
      go_meet
      exact ⟨_, _, Lib.hid ⟨ht.out.1, (Gr.of (Ext.refl NoB W0).drew).trans (HW.out.gr_turn (AV.at4 _ p) HW.out.po ht.out.2 HV2.out), rfl⟩⟩
  case rest =>
    obtain ⟨A1, O1, H1⟩ := hcut
    clear HA0
    generalize hS1 : ({ S with terms := S.terms ++ [t] } : St) = S1 at H1
    go_upto_region 3 with fail
    go_cut [] from 27 to 38 (fun wx => ∃ A2 O2, Hid (Arena wx O2 p A2 { S1 with ofs := S.ofs ++ [resultT S.funs S.ofs t] } ∧ Gr O W0 O2 wx ∧ A2.bs = A.bs))
    case first =>
      obtain ⟨sv, r, fv, tv, ov, cv, bv, bs⟩ := A1
      obtain ⟨hA, hG, hB1⟩ := H1.out
      have HBS := Lib.hid hB1
      clear hB1
      have hGG := Lib.hid hG
      obtain ⟨Z, z, hZ, _, _⟩ := hA.ofs.shape
      simp only at hZ
      have e1 : S1.ofs = S.ofs := by rw [← hS1]
      have e2 : S1.funs = S.funs := by rw [← hS1]
      have e3 : S1.consts = S.consts := by rw [← hS1]
      have HOK1 : Hid (TermOk S1.funs S.terms.length S1.ofs S1.consts t) := Lib.hid (by rw [e1, e2, e3]; exact HOK.out)
      have HLO1 : Hid (S1.ofs.length = S.terms.length) := Lib.hid (by rw [e1]; exact hlo)
      have HWF := Lib.hid (result_wf hA HOK1.out HLO1.out)
      have HRS : Hid (resultT S1.funs S1.ofs t = resultT S.funs S.ofs t) := Lib.hid (by rw [e1, e2])
      have HE1 : Hid (S1.ofs ++ [resultT S1.funs S1.ofs t] = S.ofs ++ [resultT S.funs S.ofs t]) := Lib.hid (by rw [e1, e2])
      subst hZ
      have HW := Lib.hid (hA.ext (Ext.refl NoB wc).drew)
      obtain ⟨b0, b1, b2, b3, bn⟩ := HB0.out
      replace b0 := hG.1.cell b0 bn
      replace b1 := hG.1.cell b1 bn
      replace b2 := hG.1.cell b2 bn
      replace b3 := hG.1.cell b3 bn
      have c5 := hA.c5
      have lp := hA.pl
      simp only at c5
      have HT1 := Lib.hid (kTerm.aggExt (kTerm.aggKeep HT.out hG.1 hG.2) (Ext.refl O1 wc).drew)
      have hno : S1.ofs.length ≤ 500 := by have := HLO1.out; omega
      have HN := Lib.hid hno
      clear hA hG bn e1 e2 e3 hS1 hno
      go_region_law (first
        | (go_simp; go_at_call 115; refine (c_result HW.out t _ O1 HT1.out HOK1.out HLO1.out).mono ?_; rintro e w3 ⟨rfl, hq3⟩; (have X5 := ((Ext.refl NoB wc).drew.trans hq3).cell c5 (fun h => h)); (have L5 := Nat.lt_of_lt_of_le lp ((Ext.refl NoB wc).drew.trans hq3).size))
        | (refine step_append1H kInt (by decide) w3.heap.size rfl rfl (.tmp 31) (.tmp 35) 28 rfl 0 3 _ 8 Tryz.underlying28 info_int rfl O1 (.slice Z S1.ofs.length z) rfl S1.ofs (HW.out.ext hq3).ofs rfl (resultT S1.funs S1.ofs t) [_] ⟨rfl, HWF.out⟩ (HW.out.ext hq3).old (by omega) (by have := HN.out; omega) (Nat.zero_le _) ?_; intro v2 w2 hO2 hE2 hat2; (obtain ⟨T2, c2, hv, -, -⟩ := hO2.shape); rw [List.length_append, List.length_singleton] at hv; subst hv; (have HO2 := Lib.hid hO2); (have HE2 := Lib.hid hE2); (have HV2 := Lib.hid hat2); (have HW3 := Lib.hid (HW.out.ext hq3));
            (have X4 := hE2.cell HW3.out.c5 (fun e => HW3.out.ne (AV.at5 _ p) (Arena.at0 _ p) (by decide) e rfl)); (have F4 := (hE2.frozen HW3.out.pl (fun e => HW3.out.ne (AV.at5 _ p) (Arena.at0 _ p) (by decide) e rfl)).trans (HW3.out.fz 5)); clear hO2 hE2 hat2))
      all_goals
        have ht := Lib.hid (HW3.out.turn_ov HE2.out HV2.out HO2.out)
        go_wp2_with fail
        go_meet
        exact ⟨_, _, Lib.hid ⟨HE1.out ▸ ht.out.1, hGG.out.trans ((Gr.of ((Ext.refl NoB wc).drew.trans hq3)).trans (HW3.out.gr_turn (AV.at5 _ p) HW3.out.po ht.out.2 HV2.out)), HBS.out⟩⟩
    case rest =>
      obtain ⟨A2, O2, H2⟩ := hcut
      clear H1
      generalize hS2 : ({ S1 with ofs := S.ofs ++ [resultT S.funs S.ofs t] } : St) = S2 at H2
      go_upto_region 4 with fail
      go_cut [] from 39 to 73 (fun wx => ∃ A3 O3, Hid (Arena wx O3 p A3 { S2 with consts := S.consts ++ [constT S.consts t] } ∧ Gr O W0 O3 wx ∧ A3.bs = A.bs))
      case first =>
        obtain ⟨sv, r, fv, tv, ov, cv, bv, bs⟩ := A2
        obtain ⟨hA, hG, hB2⟩ := H2.out
        have HBS := Lib.hid hB2
        clear hB2
        have hGG := Lib.hid hG
        obtain ⟨Z, z, hZ, _, _⟩ := hA.consts.shape
        simp only at hZ
        have e3 : S2.consts = S.consts := by rw [← hS2, ← hS1]
        have HLC : Hid (S2.consts.length = S.terms.length) := Lib.hid (by rw [e3]; exact hlc)
        have HE2' : Hid (S2.consts = S.consts) := Lib.hid e3
        subst hZ
        have HW := Lib.hid (hA.ext (Ext.refl NoB wc).drew)
        obtain ⟨b0, b1, b2, b3, bn⟩ := HB0.out
        replace b0 := hG.1.cell b0 bn
        replace b1 := hG.1.cell b1 bn
        replace b2 := hG.1.cell b2 bn
        replace b3 := hG.1.cell b3 bn
        have c6 := hA.c6
        have lp := hA.pl
        simp only at c6
        have HN : Hid (S2.consts.length ≤ 500) := Lib.hid (by have := HLC.out; omega)
        have HT1 := Lib.hid (kTerm.aggExt (kTerm.aggKeep HT.out hG.1 hG.2) (Ext.refl O2 wc).drew)
        have HST : Hid (wc.drew.cell? ⟨w.heap.size, 0, none⟩ = some (.int .i64 t.op) ∧ wc.drew.cell? ⟨w.heap.size, 2, none⟩ = some (.slice B t.kids.length d) ∧ wc.drew.cell? ⟨p, 6, none⟩ = some (.slice Z S2.consts.length z)) := Lib.hid ⟨b0, b2, c6⟩
        clear hA hG bn e3 hS2 b0 b1 b2 b3 c6
        by_cases o4 : t.op = 4
        · have HCT : Hid (S2.consts ++ [true] = S.consts ++ [constT S.consts t]) := Lib.hid (by rw [HE2'.out, constT, decide_eq_true o4]; rfl)
          have o4' : (t.op == 4) = true := by rw [beq_iff_eq]; exact o4
          clear o4
          refine wpM_begin (fun W => W.cell? ⟨w.heap.size, 0, none⟩ = some (.int .i64 t.op) ∧ W.cell? ⟨w.heap.size, 2, none⟩ = some (.slice B t.kids.length d) ∧ W.cell? ⟨p, 6, none⟩ = some (.slice Z S2.consts.length z)) [32, 35] [1, 2, 3, 4, 5, 6, 7, 8, 9, 10, 11, 12, 13, 14, 15, 16, 17, 18, 19, 20, 21, 22, 23, 24, 25, 26, 27, 28, 29, 30, 31] (by kernel_rfl) (by kernel_rfl) (HST.out) (fun hS0 hA => ?_)
          refine wpM_free 0 rfl (by kernel_rfl) rfl (by intro w; go_simp; try rfl) ?_; (try simp only [Act.put, List.setIfInBounds_toArray, List.set_cons_zero, List.set_cons_succ])
          refine wpM_free 1 rfl (by kernel_rfl) rfl (by intro w; go_simp; try rfl) ?_; (try simp only [Act.put, List.setIfInBounds_toArray, List.set_cons_zero, List.set_cons_succ])
          refine wpM_free 2 rfl (by kernel_rfl) rfl (by intro w; go_simp; try rfl) ?_; (try simp only [Act.put, List.setIfInBounds_toArray, List.set_cons_zero, List.set_cons_succ])
          refine wpM_free 3 rfl (by kernel_rfl) rfl (by intro w; go_simp; try rfl) ?_; (try simp only [Act.put, List.setIfInBounds_toArray, List.set_cons_zero, List.set_cons_succ])
          refine wpM_take 4 hA hS0 rfl (by kernel_rfl) rfl (by intro w hs; (try dsimp only at hs); go_simp; try rfl) ?_; (try simp only [Act.put, List.setIfInBounds_toArray, List.set_cons_zero, List.set_cons_succ])
          refine wpM_free 5 rfl (by kernel_rfl) rfl (by intro w; go_simp; try rfl) ?_; (try simp only [Act.put, List.setIfInBounds_toArray, List.set_cons_zero, List.set_cons_succ])
          refine wpM_take 6 hA hS0 rfl (by kernel_rfl) rfl (by intro w hs; (try dsimp only at hs); go_simp; try rfl) ?_; (try simp only [Act.put, List.setIfInBounds_toArray, List.set_cons_zero, List.set_cons_succ])
          refine wpM_free 7 rfl (by kernel_rfl) rfl (by intro w; go_simp; try rfl) ?_; (try simp only [Act.put, List.setIfInBounds_toArray, List.set_cons_zero, List.set_cons_succ])
          refine wpM_free 8 rfl (by kernel_rfl) rfl (by intro w; go_simp; try rfl) ?_; (try simp only [Act.put, List.setIfInBounds_toArray, List.set_cons_zero, List.set_cons_succ])
          refine wpM_skip 9 rfl (by kernel_rfl) (by kernel_rfl) ?_; (try simp only [Act.put, List.setIfInBounds_toArray, List.set_cons_zero, List.set_cons_succ])
          refine wpM_skip 10 rfl (by kernel_rfl) (by kernel_rfl) ?_; (try simp only [Act.put, List.setIfInBounds_toArray, List.set_cons_zero, List.set_cons_succ])
          refine wpM_skip 11 rfl (by kernel_rfl) (by kernel_rfl) ?_; (try simp only [Act.put, List.setIfInBounds_toArray, List.set_cons_zero, List.set_cons_succ])
          refine wpM_skip 12 rfl (by kernel_rfl) (by kernel_rfl) ?_; (try simp only [Act.put, List.setIfInBounds_toArray, List.set_cons_zero, List.set_cons_succ])
          refine wpM_skip 13 rfl (by kernel_rfl) (by kernel_rfl) ?_; (try simp only [Act.put, List.setIfInBounds_toArray, List.set_cons_zero, List.set_cons_succ])
          refine wpM_skip 14 rfl (by kernel_rfl) (by kernel_rfl) ?_; (try simp only [Act.put, List.setIfInBounds_toArray, List.set_cons_zero, List.set_cons_succ])
          refine wpM_skip 15 rfl (by kernel_rfl) (by kernel_rfl) ?_; (try simp only [Act.put, List.setIfInBounds_toArray, List.set_cons_zero, List.set_cons_succ])
          refine wpM_skip 16 rfl (by kernel_rfl) (by kernel_rfl) ?_; (try simp only [Act.put, List.setIfInBounds_toArray, List.set_cons_zero, List.set_cons_succ])
          refine wpM_skip 17 rfl (by kernel_rfl) (by kernel_rfl) ?_; (try simp only [Act.put, List.setIfInBounds_toArray, List.set_cons_zero, List.set_cons_succ])
          refine wpM_skip 18 rfl (by kernel_rfl) (by kernel_rfl) ?_; (try simp only [Act.put, List.setIfInBounds_toArray, List.set_cons_zero, List.set_cons_succ])
          refine wpM_skip 19 rfl (by kernel_rfl) (by kernel_rfl) ?_; (try simp only [Act.put, List.setIfInBounds_toArray, List.set_cons_zero, List.set_cons_succ])
          refine wpM_skip 20 rfl (by kernel_rfl) (by kernel_rfl) ?_; (try simp only [Act.put, List.setIfInBounds_toArray, List.set_cons_zero, List.set_cons_succ])
          refine wpM_skip 21 rfl (by kernel_rfl) (by kernel_rfl) ?_; (try simp only [Act.put, List.setIfInBounds_toArray, List.set_cons_zero, List.set_cons_succ])
          refine wpM_skip 22 rfl (by kernel_rfl) (by kernel_rfl) ?_; (try simp only [Act.put, List.setIfInBounds_toArray, List.set_cons_zero, List.set_cons_succ])
          refine wpM_skip 23 rfl (by kernel_rfl) (by kernel_rfl) ?_; (try simp only [Act.put, List.setIfInBounds_toArray, List.set_cons_zero, List.set_cons_succ])
          refine wpM_skip 24 rfl (by kernel_rfl) (by kernel_rfl) ?_; (try simp only [Act.put, List.setIfInBounds_toArray, List.set_cons_zero, List.set_cons_succ])
          refine wpM_skip 25 rfl (by kernel_rfl) (by kernel_rfl) ?_; (try simp only [Act.put, List.setIfInBounds_toArray, List.set_cons_zero, List.set_cons_succ])
          refine wpM_skip 26 rfl (by kernel_rfl) (by kernel_rfl) ?_; (try simp only [Act.put, List.setIfInBounds_toArray, List.set_cons_zero, List.set_cons_succ])
          refine wpM_skip 27 rfl (by kernel_rfl) (by kernel_rfl) ?_; (try simp only [Act.put, List.setIfInBounds_toArray, List.set_cons_zero, List.set_cons_succ])
          refine wpM_skip 28 rfl (by kernel_rfl) (by kernel_rfl) ?_; (try simp only [Act.put, List.setIfInBounds_toArray, List.set_cons_zero, List.set_cons_succ])
          refine wpM_skip 29 rfl (by kernel_rfl) (by kernel_rfl) ?_; (try simp only [Act.put, List.setIfInBounds_toArray, List.set_cons_zero, List.set_cons_succ])
          refine wpM_free 30 rfl (by kernel_rfl) rfl (by intro w; go_simp; try rfl) ?_; (try simp only [Act.put, List.setIfInBounds_toArray, List.set_cons_zero, List.set_cons_succ])
          refine wpM_only 31 rfl (by kernel_rfl) (fun K hK => ?_)
          go_simp
          refine hK.out _ _ ?_ (fun hS1 => ?_)
          · exact ⟨((Ext.refl NoB _).alloc _).cell hS0.1 id, ((Ext.refl NoB _).alloc _).cell hS0.2.1 id, ((Ext.refl NoB _).alloc _).cell hS0.2.2 id⟩
          clear hS0 hK K; (try simp only [Act.put, List.setIfInBounds_toArray, List.set_cons_zero, List.set_cons_succ])
          refine wpM_last 32 rfl (by kernel_rfl) (by decide) (fun K hK => ?_)
          refine step_append1H Kd.bool (by decide) wc.heap.size (by rfl) rfl (.tmp 43) (.tmp 70) 54 rfl 0 4 _ 1 Tryz.underlying54 info_bool rfl O2 (.slice Z S2.consts.length z) rfl S2.consts HW.out.consts rfl true [_] rfl HW.out.old (by omega) (by have := HN.out; omega) (Nat.zero_le _) ?_
          intro v2 w2 hO2 hE2 hat2
          obtain ⟨T2, c2, hv, -, -⟩ := hO2.shape
          rw [List.length_append, List.length_singleton] at hv
          subst hv
          have HO2 := Lib.hid hO2
          have HE2 := Lib.hid hE2
          have HV2 := Lib.hid hat2
          have X6 := hE2.cell HW.out.c6 (fun e => HW.out.ne (AV.at6 _ p) (Arena.at0 _ p) (by decide) e rfl)
          have F6 := (hE2.frozen HW.out.pl (fun e => HW.out.ne (AV.at6 _ p) (Arena.at0 _ p) (by decide) e rfl)).trans (HW.out.fz 6)
          clear hO2 hE2 hat2
          refine hK.out _ _ ?_
          clear hK K; (try simp only [Act.put, List.setIfInBounds_toArray, List.set_cons_zero, List.set_cons_succ])
          refine wpM_free 33 rfl (by kernel_rfl) rfl (by intro w; go_simp; try rfl) ?_; (try simp only [Act.put, List.setIfInBounds_toArray, List.set_cons_zero, List.set_cons_succ])
          refine wpM_free 34 rfl (by kernel_rfl) rfl (by intro w; go_simp; try rfl) ?_; (try simp only [Act.put, List.setIfInBounds_toArray, List.set_cons_zero, List.set_cons_succ])
          refine wpM_last 35 rfl (by kernel_rfl) (by decide) (fun K hK => ?_)
          go_simp
          refine hK.out _ _ ?_
          clear hK K; (try simp only [Act.put, List.setIfInBounds_toArray, List.set_cons_zero, List.set_cons_succ])
          refine wpM_done (by kernel_rfl) ?_
          have ht := Lib.hid (HW.out.turn_cv HE2.out HV2.out HO2.out)
          go_wp2_with fail
          go_meet
          exact ⟨_, _, Lib.hid ⟨HCT.out ▸ ht.out.1, hGG.out.trans ((Gr.of (Ext.refl NoB wc).drew).trans (HW.out.gr_turn (AV.at6 _ p) HW.out.po ht.out.2 HV2.out)), HBS.out⟩⟩
        · have o4' : (t.op == 4) = false := by rw [beq_eq_false_iff_ne]; exact o4
          by_cases o18 : t.op = 18
          · have o18' : (t.op == 18) = true := by rw [beq_iff_eq]; exact o18
            by_cases o1 : t.kids.length = 1
            · have o1' : ((t.kids.length : Int) == 1) = true := by rw [beq_iff_eq]; omega
              have HCT : Hid (S2.consts ++ [rdB S2.consts (kidN t 0)] = S.consts ++ [constT S.consts t]) := Lib.hid (by rw [HE2'.out, constT, decide_eq_false o4, decide_eq_true o18, decide_eq_true o1]; rfl)
              obtain ⟨q1, q2⟩ := HOK.out.kidN (k := 0) (by omega)
              have q3 : kidN t 0 < S2.consts.length := by have := HLC.out; omega
              obtain ⟨A5, d5, hv5, HK5, u0, u1, u3⟩ := term_open HT1.out
              injection hv5 with hv5
              simp at hv5
              obtain ⟨rfl, rfl⟩ := hv5
              obtain ⟨_, _, hv6, _, _, hr5⟩ := Kd.one_slice HK5
              injection hv6 with hv6 hv8 hv7
              clear hv8
              subst hv6
              subst hv7
              obtain ⟨kb, ko, rfl, _, k1, _⟩ := ints_at hr5 (k := 0) (by omega)
              rw [q2, Nat.add_zero] at k1
              generalize kidN t 0 = kk at *
              obtain ⟨gz, cz, hz⟩ := HW.out.consts.form (by omega)
              injection hz with hz1 hz3 hz2
              clear hz3
              subst hz1
              subst hz2
              have k2 := HW.out.consts.bool_at q3
              have r0 : (0 : Int) ≤ (kk : Int) := by omega
              have r1 : (kk : Int) < (S2.consts.length : Int) := by omega
              have r2 : (0 : Int) < (t.kids.length : Int) := by omega
              have r3 : 0 < t.kids.length := by omega
              have HSD : Hid (wc.drew.cell? ⟨w.heap.size, 0, none⟩ = some (.int .i64 t.op) ∧ wc.drew.cell? ⟨w.heap.size, 2, none⟩ = some (.slice (some ⟨kb, ko, none⟩) t.kids.length d) ∧ wc.drew.cell? ⟨p, 6, none⟩ = some (.slice (some ⟨gz, 0, none⟩) S2.consts.length z) ∧ wc.drew.cell? ⟨kb, ko, none⟩ = some (.int .i64 (kk : Int)) ∧ wc.drew.cell? ⟨gz, kk, none⟩ = some (.bool (rdB S2.consts kk))) := Lib.hid ⟨HST.out.1, HST.out.2.1, HST.out.2.2, k1, k2⟩
              clear o4 o18 o1 q1 q2 hr5 HK5 u0 u1 u3 k1 k2
              refine wpM_begin (fun W => W.cell? ⟨w.heap.size, 0, none⟩ = some (.int .i64 t.op) ∧ W.cell? ⟨w.heap.size, 2, none⟩ = some (.slice (some ⟨kb, ko, none⟩) t.kids.length d) ∧ W.cell? ⟨p, 6, none⟩ = some (.slice (some ⟨gz, 0, none⟩) S2.consts.length z) ∧ W.cell? ⟨kb, ko, none⟩ = some (.int .i64 (kk : Int)) ∧ W.cell? ⟨gz, kk, none⟩ = some (.bool (rdB S2.consts kk))) [32, 35] [1, 2, 3, 4, 5, 6, 7, 8, 9, 10, 11, 12, 13, 14, 15, 16, 17, 18, 19, 20, 21, 22, 23, 24, 25, 26, 27, 28, 29, 30, 31] (by kernel_rfl) (by kernel_rfl) (HSD.out) (fun hS0 hA => ?_)
              refine wpM_free 0 rfl (by kernel_rfl) rfl (by intro w; go_simp; try rfl) ?_; (try simp only [Act.put, List.setIfInBounds_toArray, List.set_cons_zero, List.set_cons_succ])
              refine wpM_free 1 rfl (by kernel_rfl) rfl (by intro w; go_simp; try rfl) ?_; (try simp only [Act.put, List.setIfInBounds_toArray, List.set_cons_zero, List.set_cons_succ])
              refine wpM_free 2 rfl (by kernel_rfl) rfl (by intro w; go_simp; try rfl) ?_; (try simp only [Act.put, List.setIfInBounds_toArray, List.set_cons_zero, List.set_cons_succ])
              refine wpM_free 3 rfl (by kernel_rfl) rfl (by intro w; go_simp; try rfl) ?_; (try simp only [Act.put, List.setIfInBounds_toArray, List.set_cons_zero, List.set_cons_succ])
              refine wpM_take 4 hA hS0 rfl (by kernel_rfl) rfl (by intro w hs; (try dsimp only at hs); go_simp; try rfl) ?_; (try simp only [Act.put, List.setIfInBounds_toArray, List.set_cons_zero, List.set_cons_succ])
              refine wpM_free 5 rfl (by kernel_rfl) rfl (by intro w; go_simp; try rfl) ?_; (try simp only [Act.put, List.setIfInBounds_toArray, List.set_cons_zero, List.set_cons_succ])
              refine wpM_take 6 hA hS0 rfl (by kernel_rfl) rfl (by intro w hs; (try dsimp only at hs); go_simp; try rfl) ?_; (try simp only [Act.put, List.setIfInBounds_toArray, List.set_cons_zero, List.set_cons_succ])
              refine wpM_free 7 rfl (by kernel_rfl) rfl (by intro w; go_simp; try rfl) ?_; (try simp only [Act.put, List.setIfInBounds_toArray, List.set_cons_zero, List.set_cons_succ])
              refine wpM_free 8 rfl (by kernel_rfl) rfl (by intro w; go_simp; try rfl) ?_; (try simp only [Act.put, List.setIfInBounds_toArray, List.set_cons_zero, List.set_cons_succ])
              refine wpM_free 9 rfl (by kernel_rfl) (by kernel_rfl) (by intro w; go_simp; try rfl) ?_; (try simp only [Act.put, List.setIfInBounds_toArray, List.set_cons_zero, List.set_cons_succ])
              refine wpM_take 10 hA hS0 rfl (by kernel_rfl) (by kernel_rfl) (by intro w hs; (try dsimp only at hs); go_simp; try rfl) ?_; (try simp only [Act.put, List.setIfInBounds_toArray, List.set_cons_zero, List.set_cons_succ])
              refine wpM_free 11 rfl (by kernel_rfl) (by kernel_rfl) (by intro w; go_simp; try rfl) ?_; (try simp only [Act.put, List.setIfInBounds_toArray, List.set_cons_zero, List.set_cons_succ])
              refine wpM_free 12 rfl (by kernel_rfl) (by kernel_rfl) (by intro w; go_simp; try rfl) ?_; (try simp only [Act.put, List.setIfInBounds_toArray, List.set_cons_zero, List.set_cons_succ])
              refine wpM_free 13 rfl (by kernel_rfl) (by kernel_rfl) (by intro w; go_simp; try rfl) ?_; (try simp only [Act.put, List.setIfInBounds_toArray, List.set_cons_zero, List.set_cons_succ])
              refine wpM_take 14 hA hS0 rfl (by kernel_rfl) (by kernel_rfl) (by intro w hs; (try dsimp only at hs); go_simp; try rfl) ?_; (try simp only [Act.put, List.setIfInBounds_toArray, List.set_cons_zero, List.set_cons_succ])
              refine wpM_free 15 rfl (by kernel_rfl) (by kernel_rfl) (by intro w; go_simp; try rfl) ?_; (try simp only [Act.put, List.setIfInBounds_toArray, List.set_cons_zero, List.set_cons_succ])
              refine wpM_free 16 rfl (by kernel_rfl) (by kernel_rfl) (by intro w; go_simp; try rfl) ?_; (try simp only [Act.put, List.setIfInBounds_toArray, List.set_cons_zero, List.set_cons_succ])
              refine wpM_free 17 rfl (by kernel_rfl) (by kernel_rfl) (by intro w; go_simp; try rfl) ?_; (try simp only [Act.put, List.setIfInBounds_toArray, List.set_cons_zero, List.set_cons_succ])
              refine wpM_free 18 rfl (by kernel_rfl) (by kernel_rfl) (by intro w; go_simp; try rfl) ?_; (try simp only [Act.put, List.setIfInBounds_toArray, List.set_cons_zero, List.set_cons_succ])
              refine wpM_free 19 rfl (by kernel_rfl) (by kernel_rfl) (by intro w; go_simp; try rfl) ?_; (try simp only [Act.put, List.setIfInBounds_toArray, List.set_cons_zero, List.set_cons_succ])
              refine wpM_free 20 rfl (by kernel_rfl) (by kernel_rfl) (by intro w; go_simp; try rfl) ?_; (try simp only [Act.put, List.setIfInBounds_toArray, List.set_cons_zero, List.set_cons_succ])
              refine wpM_free 21 rfl (by kernel_rfl) (by kernel_rfl) (by intro w; go_simp; try rfl) ?_; (try simp only [Act.put, List.setIfInBounds_toArray, List.set_cons_zero, List.set_cons_succ])
              refine wpM_take 22 hA hS0 rfl (by kernel_rfl) (by kernel_rfl) (by intro w hs; (try dsimp only at hs); go_simp; try rfl) ?_; (try simp only [Act.put, List.setIfInBounds_toArray, List.set_cons_zero, List.set_cons_succ])
              refine wpM_free 23 rfl (by kernel_rfl) (by kernel_rfl) (by intro w; go_simp; try rfl) ?_; (try simp only [Act.put, List.setIfInBounds_toArray, List.set_cons_zero, List.set_cons_succ])
              refine wpM_take 24 hA hS0 rfl (by kernel_rfl) (by kernel_rfl) (by intro w hs; (try dsimp only at hs); go_simp; try rfl) ?_; (try simp only [Act.put, List.setIfInBounds_toArray, List.set_cons_zero, List.set_cons_succ])
              refine wpM_free 25 rfl (by kernel_rfl) (by kernel_rfl) (by intro w; go_simp; try rfl) ?_; (try simp only [Act.put, List.setIfInBounds_toArray, List.set_cons_zero, List.set_cons_succ])
              refine wpM_take 26 hA hS0 rfl (by kernel_rfl) (by kernel_rfl) (by intro w hs; (try dsimp only at hs); go_simp; try rfl) ?_; (try simp only [Act.put, List.setIfInBounds_toArray, List.set_cons_zero, List.set_cons_succ])
              refine wpM_free 27 rfl (by kernel_rfl) (by kernel_rfl) (by intro w; go_simp; try rfl) ?_; (try simp only [Act.put, List.setIfInBounds_toArray, List.set_cons_zero, List.set_cons_succ])
              refine wpM_take 28 hA hS0 rfl (by kernel_rfl) (by kernel_rfl) (by intro w hs; (try dsimp only at hs); go_simp; try rfl) ?_; (try simp only [Act.put, List.setIfInBounds_toArray, List.set_cons_zero, List.set_cons_succ])
              refine wpM_free 29 rfl (by kernel_rfl) (by kernel_rfl) (by intro w; go_simp; try rfl) ?_; (try simp only [Act.put, List.setIfInBounds_toArray, List.set_cons_zero, List.set_cons_succ])
              refine wpM_free 30 rfl (by kernel_rfl) rfl (by intro w; go_simp; try rfl) ?_; (try simp only [Act.put, List.setIfInBounds_toArray, List.set_cons_zero, List.set_cons_succ])
              refine wpM_only 31 rfl (by kernel_rfl) (fun K hK => ?_)
              go_simp
              refine hK.out _ _ ?_ (fun hS1 => ?_)
              · exact ⟨((Ext.refl NoB _).alloc _).cell hS0.1 id, ((Ext.refl NoB _).alloc _).cell hS0.2.1 id, ((Ext.refl NoB _).alloc _).cell hS0.2.2.1 id, ((Ext.refl NoB _).alloc _).cell hS0.2.2.2.1 id, ((Ext.refl NoB _).alloc _).cell hS0.2.2.2.2 id⟩
              clear hS0 hK K; (try simp only [Act.put, List.setIfInBounds_toArray, List.set_cons_zero, List.set_cons_succ])
              refine wpM_last 32 rfl (by kernel_rfl) (by decide) (fun K hK => ?_)
              refine step_append1H Kd.bool (by decide) wc.heap.size (by rfl) rfl (.tmp 43) (.tmp 70) 54 rfl 0 4 _ 1 Tryz.underlying54 info_bool rfl O2 (.slice (some ⟨gz, 0, none⟩) S2.consts.length z) rfl S2.consts HW.out.consts rfl (rdB S2.consts kk) [_] rfl HW.out.old (by omega) (by have := HN.out; omega) (Nat.zero_le _) ?_
              intro v2 w2 hO2 hE2 hat2
              obtain ⟨T2, c2, hv, -, -⟩ := hO2.shape
              rw [List.length_append, List.length_singleton] at hv
              subst hv
              have HO2 := Lib.hid hO2
              have HE2 := Lib.hid hE2
              have HV2 := Lib.hid hat2
              have X6 := hE2.cell HW.out.c6 (fun e => HW.out.ne (AV.at6 _ p) (Arena.at0 _ p) (by decide) e rfl)
              have F6 := (hE2.frozen HW.out.pl (fun e => HW.out.ne (AV.at6 _ p) (Arena.at0 _ p) (by decide) e rfl)).trans (HW.out.fz 6)
              clear hO2 hE2 hat2
              refine hK.out _ _ ?_
              clear hK K; (try simp only [Act.put, List.setIfInBounds_toArray, List.set_cons_zero, List.set_cons_succ])
              refine wpM_free 33 rfl (by kernel_rfl) rfl (by intro w; go_simp; try rfl) ?_; (try simp only [Act.put, List.setIfInBounds_toArray, List.set_cons_zero, List.set_cons_succ])
              refine wpM_free 34 rfl (by kernel_rfl) rfl (by intro w; go_simp; try rfl) ?_; (try simp only [Act.put, List.setIfInBounds_toArray, List.set_cons_zero, List.set_cons_succ])
              refine wpM_last 35 rfl (by kernel_rfl) (by decide) (fun K hK => ?_)
              go_simp
              refine hK.out _ _ ?_
              clear hK K; (try simp only [Act.put, List.setIfInBounds_toArray, List.set_cons_zero, List.set_cons_succ])
              refine wpM_done (by kernel_rfl) ?_
              have ht := Lib.hid (HW.out.turn_cv HE2.out HV2.out HO2.out)
              go_wp2_with fail
              go_meet
              exact ⟨_, _, Lib.hid ⟨HCT.out ▸ ht.out.1, hGG.out.trans ((Gr.of (Ext.refl NoB wc).drew).trans (HW.out.gr_turn (AV.at6 _ p) HW.out.po ht.out.2 HV2.out)), HBS.out⟩⟩
            · have o1' : ((t.kids.length : Int) == 1) = false := by rw [beq_eq_false_iff_ne]; omega
              have HCT : Hid (S2.consts ++ [false] = S.consts ++ [constT S.consts t]) := Lib.hid (by rw [HE2'.out, constT, decide_eq_false o4, decide_eq_true o18, decide_eq_false o1]; rfl)
              clear o4 o18 o1
              refine wpM_begin (fun W => W.cell? ⟨w.heap.size, 0, none⟩ = some (.int .i64 t.op) ∧ W.cell? ⟨w.heap.size, 2, none⟩ = some (.slice B t.kids.length d) ∧ W.cell? ⟨p, 6, none⟩ = some (.slice Z S2.consts.length z)) [32, 35] [1, 2, 3, 4, 5, 6, 7, 8, 9, 10, 11, 12, 13, 14, 15, 16, 17, 18, 19, 20, 21, 22, 23, 24, 25, 26, 27, 28, 29, 30, 31] (by kernel_rfl) (by kernel_rfl) (HST.out) (fun hS0 hA => ?_)
              refine wpM_free 0 rfl (by kernel_rfl) rfl (by intro w; go_simp; try rfl) ?_; (try simp only [Act.put, List.setIfInBounds_toArray, List.set_cons_zero, List.set_cons_succ])
              refine wpM_free 1 rfl (by kernel_rfl) rfl (by intro w; go_simp; try rfl) ?_; (try simp only [Act.put, List.setIfInBounds_toArray, List.set_cons_zero, List.set_cons_succ])
              refine wpM_free 2 rfl (by kernel_rfl) rfl (by intro w; go_simp; try rfl) ?_; (try simp only [Act.put, List.setIfInBounds_toArray, List.set_cons_zero, List.set_cons_succ])
              refine wpM_free 3 rfl (by kernel_rfl) rfl (by intro w; go_simp; try rfl) ?_; (try simp only [Act.put, List.setIfInBounds_toArray, List.set_cons_zero, List.set_cons_succ])
              refine wpM_take 4 hA hS0 rfl (by kernel_rfl) rfl (by intro w hs; (try dsimp only at hs); go_simp; try rfl) ?_; (try simp only [Act.put, List.setIfInBounds_toArray, List.set_cons_zero, List.set_cons_succ])
              refine wpM_free 5 rfl (by kernel_rfl) rfl (by intro w; go_simp; try rfl) ?_; (try simp only [Act.put, List.setIfInBounds_toArray, List.set_cons_zero, List.set_cons_succ])
              refine wpM_take 6 hA hS0 rfl (by kernel_rfl) rfl (by intro w hs; (try dsimp only at hs); go_simp; try rfl) ?_; (try simp only [Act.put, List.setIfInBounds_toArray, List.set_cons_zero, List.set_cons_succ])
              refine wpM_free 7 rfl (by kernel_rfl) rfl (by intro w; go_simp; try rfl) ?_; (try simp only [Act.put, List.setIfInBounds_toArray, List.set_cons_zero, List.set_cons_succ])
              refine wpM_free 8 rfl (by kernel_rfl) rfl (by intro w; go_simp; try rfl) ?_; (try simp only [Act.put, List.setIfInBounds_toArray, List.set_cons_zero, List.set_cons_succ])
              refine wpM_free 9 rfl (by kernel_rfl) (by kernel_rfl) (by intro w; go_simp; try rfl) ?_; (try simp only [Act.put, List.setIfInBounds_toArray, List.set_cons_zero, List.set_cons_succ])
              refine wpM_take 10 hA hS0 rfl (by kernel_rfl) (by kernel_rfl) (by intro w hs; (try dsimp only at hs); go_simp; try rfl) ?_; (try simp only [Act.put, List.setIfInBounds_toArray, List.set_cons_zero, List.set_cons_succ])
              refine wpM_free 11 rfl (by kernel_rfl) (by kernel_rfl) (by intro w; go_simp; try rfl) ?_; (try simp only [Act.put, List.setIfInBounds_toArray, List.set_cons_zero, List.set_cons_succ])
              refine wpM_free 12 rfl (by kernel_rfl) (by kernel_rfl) (by intro w; go_simp; try rfl) ?_; (try simp only [Act.put, List.setIfInBounds_toArray, List.set_cons_zero, List.set_cons_succ])
              refine wpM_free 13 rfl (by kernel_rfl) (by kernel_rfl) (by intro w; go_simp; try rfl) ?_; (try simp only [Act.put, List.setIfInBounds_toArray, List.set_cons_zero, List.set_cons_succ])
              refine wpM_take 14 hA hS0 rfl (by kernel_rfl) (by kernel_rfl) (by intro w hs; (try dsimp only at hs); go_simp; try rfl) ?_; (try simp only [Act.put, List.setIfInBounds_toArray, List.set_cons_zero, List.set_cons_succ])
              refine wpM_free 15 rfl (by kernel_rfl) (by kernel_rfl) (by intro w; go_simp; try rfl) ?_; (try simp only [Act.put, List.setIfInBounds_toArray, List.set_cons_zero, List.set_cons_succ])
              refine wpM_free 16 rfl (by kernel_rfl) (by kernel_rfl) (by intro w; go_simp; try rfl) ?_; (try simp only [Act.put, List.setIfInBounds_toArray, List.set_cons_zero, List.set_cons_succ])
              refine wpM_free 17 rfl (by kernel_rfl) (by kernel_rfl) (by intro w; go_simp; try rfl) ?_; (try simp only [Act.put, List.setIfInBounds_toArray, List.set_cons_zero, List.set_cons_succ])
              refine wpM_free 18 rfl (by kernel_rfl) (by kernel_rfl) (by intro w; go_simp; try rfl) ?_; (try simp only [Act.put, List.setIfInBounds_toArray, List.set_cons_zero, List.set_cons_succ])
              refine wpM_skip 19 rfl (by kernel_rfl) (by kernel_rfl) ?_; (try simp only [Act.put, List.setIfInBounds_toArray, List.set_cons_zero, List.set_cons_succ])
              refine wpM_skip 20 rfl (by kernel_rfl) (by kernel_rfl) ?_; (try simp only [Act.put, List.setIfInBounds_toArray, List.set_cons_zero, List.set_cons_succ])
              refine wpM_skip 21 rfl (by kernel_rfl) (by kernel_rfl) ?_; (try simp only [Act.put, List.setIfInBounds_toArray, List.set_cons_zero, List.set_cons_succ])
              refine wpM_skip 22 rfl (by kernel_rfl) (by kernel_rfl) ?_; (try simp only [Act.put, List.setIfInBounds_toArray, List.set_cons_zero, List.set_cons_succ])
              refine wpM_skip 23 rfl (by kernel_rfl) (by kernel_rfl) ?_; (try simp only [Act.put, List.setIfInBounds_toArray, List.set_cons_zero, List.set_cons_succ])
              refine wpM_skip 24 rfl (by kernel_rfl) (by kernel_rfl) ?_; (try simp only [Act.put, List.setIfInBounds_toArray, List.set_cons_zero, List.set_cons_succ])
              refine wpM_skip 25 rfl (by kernel_rfl) (by kernel_rfl) ?_; (try simp only [Act.put, List.setIfInBounds_toArray, List.set_cons_zero, List.set_cons_succ])
              refine wpM_skip 26 rfl (by kernel_rfl) (by kernel_rfl) ?_; (try simp only [Act.put, List.setIfInBounds_toArray, List.set_cons_zero, List.set_cons_succ])
              refine wpM_skip 27 rfl (by kernel_rfl) (by kernel_rfl) ?_; (try simp only [Act.put, List.setIfInBounds_toArray, List.set_cons_zero, List.set_cons_succ])
              refine wpM_skip 28 rfl (by kernel_rfl) (by kernel_rfl) ?_; (try simp only [Act.put, List.setIfInBounds_toArray, List.set_cons_zero, List.set_cons_succ])
              refine wpM_free 29 rfl (by kernel_rfl) (by kernel_rfl) (by intro w; go_simp; try rfl) ?_; (try simp only [Act.put, List.setIfInBounds_toArray, List.set_cons_zero, List.set_cons_succ])
              refine wpM_free 30 rfl (by kernel_rfl) rfl (by intro w; go_simp; try rfl) ?_; (try simp only [Act.put, List.setIfInBounds_toArray, List.set_cons_zero, List.set_cons_succ])
              refine wpM_only 31 rfl (by kernel_rfl) (fun K hK => ?_)
              go_simp
              refine hK.out _ _ ?_ (fun hS1 => ?_)
              · exact ⟨((Ext.refl NoB _).alloc _).cell hS0.1 id, ((Ext.refl NoB _).alloc _).cell hS0.2.1 id, ((Ext.refl NoB _).alloc _).cell hS0.2.2 id⟩
              clear hS0 hK K; (try simp only [Act.put, List.setIfInBounds_toArray, List.set_cons_zero, List.set_cons_succ])
              refine wpM_last 32 rfl (by kernel_rfl) (by decide) (fun K hK => ?_)
              refine step_append1H Kd.bool (by decide) wc.heap.size (by rfl) rfl (.tmp 43) (.tmp 70) 54 rfl 0 4 _ 1 Tryz.underlying54 info_bool rfl O2 (.slice Z S2.consts.length z) rfl S2.consts HW.out.consts rfl false [_] rfl HW.out.old (by omega) (by have := HN.out; omega) (Nat.zero_le _) ?_
              intro v2 w2 hO2 hE2 hat2
              obtain ⟨T2, c2, hv, -, -⟩ := hO2.shape
              rw [List.length_append, List.length_singleton] at hv
              subst hv
              have HO2 := Lib.hid hO2
              have HE2 := Lib.hid hE2
              have HV2 := Lib.hid hat2
              have X6 := hE2.cell HW.out.c6 (fun e => HW.out.ne (AV.at6 _ p) (Arena.at0 _ p) (by decide) e rfl)
              have F6 := (hE2.frozen HW.out.pl (fun e => HW.out.ne (AV.at6 _ p) (Arena.at0 _ p) (by decide) e rfl)).trans (HW.out.fz 6)
              clear hO2 hE2 hat2
              refine hK.out _ _ ?_
              clear hK K; (try simp only [Act.put, List.setIfInBounds_toArray, List.set_cons_zero, List.set_cons_succ])
              refine wpM_free 33 rfl (by kernel_rfl) rfl (by intro w; go_simp; try rfl) ?_; (try simp only [Act.put, List.setIfInBounds_toArray, List.set_cons_zero, List.set_cons_succ])
              refine wpM_free 34 rfl (by kernel_rfl) rfl (by intro w; go_simp; try rfl) ?_; (try simp only [Act.put, List.setIfInBounds_toArray, List.set_cons_zero, List.set_cons_succ])
              refine wpM_last 35 rfl (by kernel_rfl) (by decide) (fun K hK => ?_)
              go_simp
              refine hK.out _ _ ?_
              clear hK K; (try simp only [Act.put, List.setIfInBounds_toArray, List.set_cons_zero, List.set_cons_succ])
              refine wpM_done (by kernel_rfl) ?_
              have ht := Lib.hid (HW.out.turn_cv HE2.out HV2.out HO2.out)
              go_wp2_with fail
              go_meet
              exact ⟨_, _, Lib.hid ⟨HCT.out ▸ ht.out.1, hGG.out.trans ((Gr.of (Ext.refl NoB wc).drew).trans (HW.out.gr_turn (AV.at6 _ p) HW.out.po ht.out.2 HV2.out)), HBS.out⟩⟩
          · have o18' : (t.op == 18) = false := by rw [beq_eq_false_iff_ne]; exact o18
            have HCT : Hid (S2.consts ++ [false] = S.consts ++ [constT S.consts t]) := Lib.hid (by rw [HE2'.out, constT, decide_eq_false o4, decide_eq_false o18]; rfl)
            clear o4 o18
            refine wpM_begin (fun W => W.cell? ⟨w.heap.size, 0, none⟩ = some (.int .i64 t.op) ∧ W.cell? ⟨w.heap.size, 2, none⟩ = some (.slice B t.kids.length d) ∧ W.cell? ⟨p, 6, none⟩ = some (.slice Z S2.consts.length z)) [32, 35] [1, 2, 3, 4, 5, 6, 7, 8, 9, 10, 11, 12, 13, 14, 15, 16, 17, 18, 19, 20, 21, 22, 23, 24, 25, 26, 27, 28, 29, 30, 31] (by kernel_rfl) (by kernel_rfl) (HST.out) (fun hS0 hA => ?_)
            refine wpM_free 0 rfl (by kernel_rfl) rfl (by intro w; go_simp; try rfl) ?_; (try simp only [Act.put, List.setIfInBounds_toArray, List.set_cons_zero, List.set_cons_succ])
            refine wpM_free 1 rfl (by kernel_rfl) rfl (by intro w; go_simp; try rfl) ?_; (try simp only [Act.put, List.setIfInBounds_toArray, List.set_cons_zero, List.set_cons_succ])
            refine wpM_free 2 rfl (by kernel_rfl) rfl (by intro w; go_simp; try rfl) ?_; (try simp only [Act.put, List.setIfInBounds_toArray, List.set_cons_zero, List.set_cons_succ])
            refine wpM_free 3 rfl (by kernel_rfl) rfl (by intro w; go_simp; try rfl) ?_; (try simp only [Act.put, List.setIfInBounds_toArray, List.set_cons_zero, List.set_cons_succ])
            refine wpM_take 4 hA hS0 rfl (by kernel_rfl) rfl (by intro w hs; (try dsimp only at hs); go_simp; try rfl) ?_; (try simp only [Act.put, List.setIfInBounds_toArray, List.set_cons_zero, List.set_cons_succ])
            refine wpM_free 5 rfl (by kernel_rfl) rfl (by intro w; go_simp; try rfl) ?_; (try simp only [Act.put, List.setIfInBounds_toArray, List.set_cons_zero, List.set_cons_succ])
            refine wpM_take 6 hA hS0 rfl (by kernel_rfl) rfl (by intro w hs; (try dsimp only at hs); go_simp; try rfl) ?_; (try simp only [Act.put, List.setIfInBounds_toArray, List.set_cons_zero, List.set_cons_succ])
            refine wpM_free 7 rfl (by kernel_rfl) rfl (by intro w; go_simp; try rfl) ?_; (try simp only [Act.put, List.setIfInBounds_toArray, List.set_cons_zero, List.set_cons_succ])
            refine wpM_free 8 rfl (by kernel_rfl) rfl (by intro w; go_simp; try rfl) ?_; (try simp only [Act.put, List.setIfInBounds_toArray, List.set_cons_zero, List.set_cons_succ])
            refine wpM_free 9 rfl (by kernel_rfl) (by kernel_rfl) (by intro w; go_simp; try rfl) ?_; (try simp only [Act.put, List.setIfInBounds_toArray, List.set_cons_zero, List.set_cons_succ])
            refine wpM_take 10 hA hS0 rfl (by kernel_rfl) (by kernel_rfl) (by intro w hs; (try dsimp only at hs); go_simp; try rfl) ?_; (try simp only [Act.put, List.setIfInBounds_toArray, List.set_cons_zero, List.set_cons_succ])
            refine wpM_free 11 rfl (by kernel_rfl) (by kernel_rfl) (by intro w; go_simp; try rfl) ?_; (try simp only [Act.put, List.setIfInBounds_toArray, List.set_cons_zero, List.set_cons_succ])
            refine wpM_free 12 rfl (by kernel_rfl) (by kernel_rfl) (by intro w; go_simp; try rfl) ?_; (try simp only [Act.put, List.setIfInBounds_toArray, List.set_cons_zero, List.set_cons_succ])
            refine wpM_skip 13 rfl (by kernel_rfl) (by kernel_rfl) ?_; (try simp only [Act.put, List.setIfInBounds_toArray, List.set_cons_zero, List.set_cons_succ])
            refine wpM_skip 14 rfl (by kernel_rfl) (by kernel_rfl) ?_; (try simp only [Act.put, List.setIfInBounds_toArray, List.set_cons_zero, List.set_cons_succ])
            refine wpM_skip 15 rfl (by kernel_rfl) (by kernel_rfl) ?_; (try simp only [Act.put, List.setIfInBounds_toArray, List.set_cons_zero, List.set_cons_succ])
            refine wpM_skip 16 rfl (by kernel_rfl) (by kernel_rfl) ?_; (try simp only [Act.put, List.setIfInBounds_toArray, List.set_cons_zero, List.set_cons_succ])
            refine wpM_free 17 rfl (by kernel_rfl) (by kernel_rfl) (by intro w; go_simp; try rfl) ?_; (try simp only [Act.put, List.setIfInBounds_toArray, List.set_cons_zero, List.set_cons_succ])
            refine wpM_free 18 rfl (by kernel_rfl) (by kernel_rfl) (by intro w; go_simp; try rfl) ?_; (try simp only [Act.put, List.setIfInBounds_toArray, List.set_cons_zero, List.set_cons_succ])
            refine wpM_skip 19 rfl (by kernel_rfl) (by kernel_rfl) ?_; (try simp only [Act.put, List.setIfInBounds_toArray, List.set_cons_zero, List.set_cons_succ])
            refine wpM_skip 20 rfl (by kernel_rfl) (by kernel_rfl) ?_; (try simp only [Act.put, List.setIfInBounds_toArray, List.set_cons_zero, List.set_cons_succ])
            refine wpM_skip 21 rfl (by kernel_rfl) (by kernel_rfl) ?_; (try simp only [Act.put, List.setIfInBounds_toArray, List.set_cons_zero, List.set_cons_succ])
            refine wpM_skip 22 rfl (by kernel_rfl) (by kernel_rfl) ?_; (try simp only [Act.put, List.setIfInBounds_toArray, List.set_cons_zero, List.set_cons_succ])
            refine wpM_skip 23 rfl (by kernel_rfl) (by kernel_rfl) ?_; (try simp only [Act.put, List.setIfInBounds_toArray, List.set_cons_zero, List.set_cons_succ])
            refine wpM_skip 24 rfl (by kernel_rfl) (by kernel_rfl) ?_; (try simp only [Act.put, List.setIfInBounds_toArray, List.set_cons_zero, List.set_cons_succ])
            refine wpM_skip 25 rfl (by kernel_rfl) (by kernel_rfl) ?_; (try simp only [Act.put, List.setIfInBounds_toArray, List.set_cons_zero, List.set_cons_succ])
            refine wpM_skip 26 rfl (by kernel_rfl) (by kernel_rfl) ?_; (try simp only [Act.put, List.setIfInBounds_toArray, List.set_cons_zero, List.set_cons_succ])
            refine wpM_skip 27 rfl (by kernel_rfl) (by kernel_rfl) ?_; (try simp only [Act.put, List.setIfInBounds_toArray, List.set_cons_zero, List.set_cons_succ])
            refine wpM_skip 28 rfl (by kernel_rfl) (by kernel_rfl) ?_; (try simp only [Act.put, List.setIfInBounds_toArray, List.set_cons_zero, List.set_cons_succ])
            refine wpM_free 29 rfl (by kernel_rfl) (by kernel_rfl) (by intro w; go_simp; try rfl) ?_; (try simp only [Act.put, List.setIfInBounds_toArray, List.set_cons_zero, List.set_cons_succ])
            refine wpM_free 30 rfl (by kernel_rfl) rfl (by intro w; go_simp; try rfl) ?_; (try simp only [Act.put, List.setIfInBounds_toArray, List.set_cons_zero, List.set_cons_succ])
            refine wpM_only 31 rfl (by kernel_rfl) (fun K hK => ?_)
            go_simp
            refine hK.out _ _ ?_ (fun hS1 => ?_)
            · exact ⟨((Ext.refl NoB _).alloc _).cell hS0.1 id, ((Ext.refl NoB _).alloc _).cell hS0.2.1 id, ((Ext.refl NoB _).alloc _).cell hS0.2.2 id⟩
            clear hS0 hK K; (try simp only [Act.put, List.setIfInBounds_toArray, List.set_cons_zero, List.set_cons_succ])
            refine wpM_last 32 rfl (by kernel_rfl) (by decide) (fun K hK => ?_)
            refine step_append1H Kd.bool (by decide) wc.heap.size (by rfl) rfl (.tmp 43) (.tmp 70) 54 rfl 0 4 _ 1 Tryz.underlying54 info_bool rfl O2 (.slice Z S2.consts.length z) rfl S2.consts HW.out.consts rfl false [_] rfl HW.out.old (by omega) (by have := HN.out; omega) (Nat.zero_le _) ?_
            intro v2 w2 hO2 hE2 hat2
            obtain ⟨T2, c2, hv, -, -⟩ := hO2.shape
            rw [List.length_append, List.length_singleton] at hv
            subst hv
            have HO2 := Lib.hid hO2
            have HE2 := Lib.hid hE2
            have HV2 := Lib.hid hat2
            have X6 := hE2.cell HW.out.c6 (fun e => HW.out.ne (AV.at6 _ p) (Arena.at0 _ p) (by decide) e rfl)
            have F6 := (hE2.frozen HW.out.pl (fun e => HW.out.ne (AV.at6 _ p) (Arena.at0 _ p) (by decide) e rfl)).trans (HW.out.fz 6)
            clear hO2 hE2 hat2
            refine hK.out _ _ ?_
            clear hK K; (try simp only [Act.put, List.setIfInBounds_toArray, List.set_cons_zero, List.set_cons_succ])
            refine wpM_free 33 rfl (by kernel_rfl) rfl (by intro w; go_simp; try rfl) ?_; (try simp only [Act.put, List.setIfInBounds_toArray, List.set_cons_zero, List.set_cons_succ])
            refine wpM_free 34 rfl (by kernel_rfl) rfl (by intro w; go_simp; try rfl) ?_; (try simp only [Act.put, List.setIfInBounds_toArray, List.set_cons_zero, List.set_cons_succ])
            refine wpM_last 35 rfl (by kernel_rfl) (by decide) (fun K hK => ?_)
            go_simp
            refine hK.out _ _ ?_
            clear hK K; (try simp only [Act.put, List.setIfInBounds_toArray, List.set_cons_zero, List.set_cons_succ])
            refine wpM_done (by kernel_rfl) ?_
            have ht := Lib.hid (HW.out.turn_cv HE2.out HV2.out HO2.out)
            go_wp2_with fail
            go_meet
            exact ⟨_, _, Lib.hid ⟨HCT.out ▸ ht.out.1, hGG.out.trans ((Gr.of (Ext.refl NoB wc).drew).trans (HW.out.gr_turn (AV.at6 _ p) HW.out.po ht.out.2 HV2.out)), HBS.out⟩⟩
      case rest =>
        obtain ⟨A3, O3, H3⟩ := hcut
        clear H2
        have HS3 : ({ S2 with consts := S.consts ++ [constT S.consts t] } : St) = { S with terms := S.terms ++ [t], ofs := S.ofs ++ [resultT S.funs S.ofs t], consts := S.consts ++ [constT S.consts t] } := by rw [← hS2, ← hS1]
        rw [HS3] at H3
        clear HS3 hS1 hS2 HT HB0 HOK
        obtain ⟨hA, hG, hB⟩ := H3.out
        clear H3
        have HG3 := Lib.hid (HG0.out.trans hG)
        obtain ⟨sv, r, fv, tv, ov, cv, bv, bs⟩ := A3
        simp only at hB
        have HIN : Hid (∀ b ∈ bs, b.2.length ≤ S.terms.length) := HLEN.out hB
        obtain ⟨gt, d3, hv3⟩ := hA.terms.form (by rw [List.length_append, List.length_singleton]; omega)
        simp only at hv3
        rw [List.length_append, List.length_singleton] at hv3
        subst hv3
        obtain ⟨gb, db, hv4, _, _⟩ := hA.bv_form
        simp only at hv4
        subst hv4
        have c4 := hA.c4
        have c7 := hA.c7
        have HA3 := Lib.hid hA
        have hnb := hA.nb
        simp only at c4 c7 hnb
        obtain ⟨hnb0, hnb1⟩ := hnb
        clear hA hG hB HG0
        go_upto_region 5 with fail
        by_cases hle : S.terms.length + 1 ≤ bs.length
        · have hle' : decide ((S.terms.length : Int) + 1 ≤ (bs.length : Int)) = true := by rw [decide_eq_true_eq]; omega
          obtain ⟨j, hj⟩ : ∃ j : Nat, hash % (bs.length : Int) = (j : Int) := ⟨(hash % (bs.length : Int)).toNat, (Int.toNat_of_nonneg (Int.emod_nonneg _ (by omega))).symm⟩
          have hjl : j < bs.length := by have := Int.emod_lt_of_pos hash (b := (bs.length : Int)) (by omega); omega
          have hjl' : (j : Int) < (bs.length : Int) := by omega
          have hj0 : (0 : Int) ≤ (j : Int) := by omega
          go_quiet (fail)
          go_wp2_with fail
          have HW := Lib.hid (HA3.out.ext ((Ext.refl NoB wc).drewN nq).drew)
          obtain ⟨⟨bkv, bkl⟩, hbk⟩ := at_some hjl
          obtain ⟨k1, k2⟩ := HW.out.bucket_at rfl hbk
          obtain ⟨Bz, bz, hv5, _, _⟩ := (HW.out.ins _ (List.mem_of_getElem? hbk)).1.shape
          simp only at hv5 k1
          subst hv5
          have HBI := Lib.hid (HW.out.ins _ (List.mem_of_getElem? hbk))
          have HBL : Hid (bkl.length ≤ S.terms.length) := Lib.hid (HIN.out _ (List.mem_of_getElem? hbk))
          have HST : Hid ((wc.drewN nq).drew.cell? ⟨p, 7, none⟩ = some (.slice (some ⟨gb, 0, none⟩) bs.length db) ∧ (wc.drewN nq).drew.cell? ⟨gb, j, none⟩ = some (.slice Bz bkl.length bz)) := Lib.hid ⟨c7, k1⟩
          have HBK := Lib.hid hbk
          clear hbk k1 k2 c4 c7 hle
          refine wpM_begin (fun W => W.cell? ⟨p, 7, none⟩ = some (.slice (some ⟨gb, 0, none⟩) bs.length db) ∧ W.cell? ⟨gb, j, none⟩ = some (.slice Bz bkl.length bz)) [16] [0, 1, 2, 3, 4, 5, 6, 7, 8, 9, 10, 11, 12, 13, 14, 15] (by kernel_rfl) (by kernel_rfl) (HST.out) (fun hS0 hA => ?_)
          refine wpM_free 0 rfl (by kernel_rfl) rfl (by intro w; go_simp; try rfl) ?_; (try simp only [Act.put, List.setIfInBounds_toArray, List.set_cons_zero, List.set_cons_succ])
          refine wpM_free 1 rfl (by kernel_rfl) rfl (by intro w; go_simp; try rfl) ?_; (try simp only [Act.put, List.setIfInBounds_toArray, List.set_cons_zero, List.set_cons_succ])
          refine wpM_free 2 rfl (by kernel_rfl) rfl (by intro w; go_simp; try rfl) ?_; (try simp only [Act.put, List.setIfInBounds_toArray, List.set_cons_zero, List.set_cons_succ])
          refine wpM_take 3 hA hS0 rfl (by kernel_rfl) rfl (by intro w hs; (try dsimp only at hs); go_simp; try rfl) ?_; (try simp only [Act.put, List.setIfInBounds_toArray, List.set_cons_zero, List.set_cons_succ])
          refine wpM_free 4 rfl (by kernel_rfl) rfl (by intro w; go_simp; try rfl) ?_; (try simp only [Act.put, List.setIfInBounds_toArray, List.set_cons_zero, List.set_cons_succ])
          refine wpM_free 5 rfl (by kernel_rfl) rfl (by intro w; go_simp; try rfl) ?_; (try simp only [Act.put, List.setIfInBounds_toArray, List.set_cons_zero, List.set_cons_succ])
          refine wpM_free 6 rfl (by kernel_rfl) rfl (by intro w; go_simp; try rfl) ?_; (try simp only [Act.put, List.setIfInBounds_toArray, List.set_cons_zero, List.set_cons_succ])
          refine wpM_free 7 rfl (by kernel_rfl) rfl (by intro w; go_simp; try rfl) ?_; (try simp only [Act.put, List.setIfInBounds_toArray, List.set_cons_zero, List.set_cons_succ])
          refine wpM_take 8 hA hS0 rfl (by kernel_rfl) rfl (by intro w hs; (try dsimp only at hs); go_simp; try rfl) ?_; (try simp only [Act.put, List.setIfInBounds_toArray, List.set_cons_zero, List.set_cons_succ])
          refine wpM_free 9 rfl (by kernel_rfl) rfl (by intro w; go_simp; try rfl) ?_; (try simp only [Act.put, List.setIfInBounds_toArray, List.set_cons_zero, List.set_cons_succ])
          refine wpM_free 10 rfl (by kernel_rfl) rfl (by intro w; go_simp; try rfl) ?_; (try simp only [Act.put, List.setIfInBounds_toArray, List.set_cons_zero, List.set_cons_succ])
          refine wpM_take 11 hA hS0 rfl (by kernel_rfl) rfl (by intro w hs; (try dsimp only at hs); go_simp; try rfl) ?_; (try simp only [Act.put, List.setIfInBounds_toArray, List.set_cons_zero, List.set_cons_succ])
          refine wpM_free 12 rfl (by kernel_rfl) rfl (by intro w; go_simp; try rfl) ?_; (try simp only [Act.put, List.setIfInBounds_toArray, List.set_cons_zero, List.set_cons_succ])
          refine wpM_only 13 rfl (by kernel_rfl) (fun K hK => ?_)
          go_simp
          refine hK.out _ _ ?_ (fun hS1 => ?_)
          · exact ⟨((Ext.refl NoB _).alloc _).cell hS0.1 id, ((Ext.refl NoB _).alloc _).cell hS0.2 id⟩
          clear hS0 hK K; (try simp only [Act.put, List.setIfInBounds_toArray, List.set_cons_zero, List.set_cons_succ])
          refine wpM_only 14 rfl (by kernel_rfl) (fun K hK => ?_)
          refine step_append1H kInt (by decide) wc.heap.size (by rfl) rfl (.tmp 104) (.tmp 106) 28 rfl 0 3 _ 8 Tryz.underlying28 info_int rfl O3 (.slice Bz bkl.length bz) rfl bkl HBI.out.1 rfl (S.terms.length : Int) [_] ⟨rfl, wf_i (by omega) (by omega)⟩ HW.out.old (by omega) (by have := HBL.out; omega) (Nat.zero_le _) ?_
          intro v2 w2 hO2 hE2 hat2
          obtain ⟨T2, c2, hv, -, -⟩ := hO2.shape
          rw [List.length_append, List.length_singleton] at hv
          subst hv
          have HO2 := Lib.hid hO2
          have HE2 := Lib.hid hE2
          have HV2 := Lib.hid hat2
          have X7 := hE2.cell (HW.out.bucket_at rfl HBK.out).1 (fun e => HW.out.ne (AV.at8 _ p HBK.out) (AV.at7 _ p) (by omega) e rfl)
          have F7 := (hE2.frozen (cell_lt (HW.out.bucket_at rfl HBK.out).1) (fun e => HW.out.ne (AV.at8 _ p HBK.out) (AV.at7 _ p) (by omega) e rfl)).trans (HW.out.bucket_at rfl HBK.out).2
          have hE2 := HE2.out
          clear hO2 hat2
          refine hK.out _ _ ?_ (fun hS2 => ?_)
          · exact ⟨hE2.cell HST.out.1 (fun e => HW.out.ne (AV.at8 _ p HBK.out) (Arena.at0 _ p) (by omega) e rfl), X7⟩
          clear hS1 hK K; (try simp only [Act.put, List.setIfInBounds_toArray, List.set_cons_zero, List.set_cons_succ])
          refine wpM_free 15 rfl (by kernel_rfl) rfl (by intro w; go_simp; try rfl) ?_; (try simp only [Act.put, List.setIfInBounds_toArray, List.set_cons_zero, List.set_cons_succ])
          refine wpM_last 16 rfl (by kernel_rfl) (by decide) (fun K hK => ?_)
          go_simp
          refine hK.out _ _ ?_
          clear hK K; (try simp only [Act.put, List.setIfInBounds_toArray, List.set_cons_zero, List.set_cons_succ])
          refine wpM_done (by kernel_rfl) ?_
          have ht := Lib.hid (HW.out.turn_bucket HBK.out rfl HE2.out HV2.out HO2.out (by
            intro x hx
            rcases List.mem_append.1 hx with hx | hx
            · exact HBI.out.2.1 x hx
            · rw [List.mem_singleton.1 hx]
              simp only [List.length_append, List.length_singleton]
              omega) (by have := HBL.out; simp only [List.length_append, List.length_singleton]; omega))
          go_wp2_with fail
          go_ret
          exact ⟨rfl, _, _, ht.out.1, HG3.out.trans ((Gr.of ((Ext.refl NoB wc).drewN nq).drew).trans (HW.out.gr_turn (AV.at8 _ p HBK.out) (HW.out.mo _ (AV.mem _ p (i := 7) (by rw [AV.at7]; rfl))) ht.out.2 HV2.out))⟩
        · have hle' : decide ((S.terms.length : Int) + 1 ≤ (bs.length : Int)) = false := by rw [decide_eq_false_iff_not]; omega
          go_quiet (fail)
          have HW9 := Lib.hid (HA3.out.ext ((Ext.refl NoB wc).drewN nq))
          have hf7 : (wc.drewN nq).frozen? ⟨p, 7, none⟩ = false := HA3.out.fz 7
          go_wp2_with (at_make; refine wpl_makeN kAny rfl (.tmp 116) (.tmp 116) 98 rfl 0 28 _ 24 Tryz.underlying98 info_ints rfl O3 .i64 .i64 (2 * (bs.length : Int)) (2 * (bs.length : Int)) (2 * bs.length) rfl rfl (by omega) (by omega) (by omega) (by omega) (Nat.zero_le _) (.slice none 0 0) (fun _ _ => ⟨rfl, rfl⟩) ?_; intro v9 w9 hv9 hO9 hE9; subst hv9; (have HO9 := Lib.hid hO9); (have HE9 := Lib.hid hE9); (have X7 := hE9.cell HW9.out.c7 (fun h => h)); (have F7 := (hE9.frozen HW9.out.pl (fun h => h)).trans (HW9.out.fz 7)); (have X4 := hE9.cell HW9.out.c4 (fun h => h)); (have L4 := HW9.out.pl); clear hO9 hE9)
          go_loopw [125] (fun i wr => ∃ k : Nat, k ≤ S.terms.length + 1 ∧ i = .int .i64 k ∧ ∃ A' O', Hid (Arena wr O' p A' { S with terms := S.terms ++ [t], ofs := S.ofs ++ [resultT S.funs S.ofs t], consts := S.consts ++ [constT S.consts t] } ∧ Gr O w O' wr ∧ A'.tv = .slice (some ⟨gt, 0, none⟩) (S.terms.length + 1) d3 ∧ ∀ b ∈ A'.bs, b.2.length ≤ k)) (fun i _ => S.terms.length + 1 - (intOf i).toNat)
          case atStart =>
            have h9 := HW9.out.turn_bv HE9.out (g := wc.heap.size) rfl (Nat.le_refl _) HO9.out ⟨by omega, by omega⟩
            refine ⟨0, by omega, rfl, _, _, Lib.hid ⟨h9.1, HG3.out.trans ((Gr.of ((Ext.refl NoB wc).drewN nq)).trans ⟨h9.2.mono (fun b _ e => e ▸ HW9.out.po), fun b hb h => h.elim id (fun e => ?_)⟩), rfl, ?_⟩⟩
            · have e2 : some wc.heap.size = some b := e
              injection e2 with e2
              have : b < wc.heap.size := hb
              omega
            · intro b hb
              rw [(List.mem_replicate.1 hb).2]
              exact Nat.le_refl _
          case round =>
            clear X7 F7 X4 hf7
            obtain ⟨k, hk, rfl, A', O', HR⟩ := hrel
            obtain ⟨sv1, r1, fv1, tv1, ov1, cv1, bv1, bs1⟩ := A'
            obtain ⟨hA, hG, htv, hlen⟩ := HR.out
            simp only at htv hlen
            subst htv
            obtain ⟨g1, d1, hbv, _, _⟩ := hA.bv_form
            simp only at hbv
            subst hbv
            have HGR := Lib.hid hG
            have HLN := Lib.hid hlen
            have HAr := Lib.hid hA
            have c7 := hA.c7
            have lp := hA.pl
            have hnb := hA.nb
            simp only at c7 hnb
            obtain ⟨nb0, nb1⟩ := hnb
            by_cases hlt : k < S.terms.length + 1
            · obtain ⟨x, hx⟩ := at_some (show k < (S.terms ++ [t]).length by rw [List.length_append, List.length_singleton]; exact hlt)
              obtain ⟨Bx, dx, ⟨x0, x1, x2, x3⟩, hkids, wf0, wf1, wf3⟩ := hA.terms.term_at hx
              have HKX := Lib.hid hkids
              clear hA hG hlen HR hkids
              go_wp2_with fail
              have hE1 : Ext NoB wr (wr.alloc (Obj.cells #[.int .i64 x.op, .int .i64 x.fn, .slice Bx x.kids.length dx, .string x.num] 63)) := (Ext.refl _ _).alloc _
              have HX1 := Lib.hid (tm_mk (kInts.oneExt HKX.out (hE1.no.drew)) wf0 wf1 wf3)
              have HS13 : Hid ((fun W => W.cell? ⟨wr.heap.size, 0, none⟩ = some (.int .i64 x.op) ∧ W.cell? ⟨wr.heap.size, 1, none⟩ = some (.int .i64 x.fn) ∧ W.cell? ⟨wr.heap.size, 2, none⟩ = some (.slice Bx x.kids.length dx) ∧ W.cell? ⟨wr.heap.size, 3, none⟩ = some (.string x.num) ∧ W.cell? ⟨p, 7, none⟩ = some (.slice (some ⟨g1, 0, none⟩) bs1.length d1)) (wr.alloc (Obj.cells #[.int .i64 x.op, .int .i64 x.fn, .slice Bx x.kids.length dx, .string x.num] 63)).drew) := Lib.hid ⟨by go_simp, by go_simp, by go_simp, by go_simp, hE1.cell c7 id⟩
              have HE1 := Lib.hid hE1
              clear hE1 x0 x1 x2 x3 c7
              generalize wr.alloc (Obj.cells #[.int .i64 x.op, .int .i64 x.fn, .slice Bx x.kids.length dx, .string x.num] 63) = w1 at *
              refine wpM_begin (fun W => W.cell? ⟨wr.heap.size, 0, none⟩ = some (.int .i64 x.op) ∧ W.cell? ⟨wr.heap.size, 1, none⟩ = some (.int .i64 x.fn) ∧ W.cell? ⟨wr.heap.size, 2, none⟩ = some (.slice Bx x.kids.length dx) ∧ W.cell? ⟨wr.heap.size, 3, none⟩ = some (.string x.num) ∧ W.cell? ⟨p, 7, none⟩ = some (.slice (some ⟨g1, 0, none⟩) bs1.length d1)) [] [0, 1, 2, 3, 4, 5, 6, 7, 8, 9] (by kernel_rfl) (by kernel_rfl) (HS13.out) (fun hS0 hA => ?_)
              refine wpM_take 0 hA hS0 rfl (by kernel_rfl) rfl (by intro w hs; (try dsimp only at hs); go_simp; try rfl) ?_; (try simp only [Act.put, List.setIfInBounds_toArray, List.set_cons_zero, List.set_cons_succ])
              refine wpM_free 2 rfl (by kernel_rfl) rfl (by intro w; go_simp; try rfl) ?_; (try simp only [Act.put, List.setIfInBounds_toArray, List.set_cons_zero, List.set_cons_succ])
              refine wpM_free 3 rfl (by kernel_rfl) rfl (by intro w; go_simp; try rfl) ?_; (try simp only [Act.put, List.setIfInBounds_toArray, List.set_cons_zero, List.set_cons_succ])
              refine wpM_free 4 rfl (by kernel_rfl) rfl (by intro w; go_simp; try rfl) ?_; (try simp only [Act.put, List.setIfInBounds_toArray, List.set_cons_zero, List.set_cons_succ])
              refine wpM_take 5 hA hS0 rfl (by kernel_rfl) rfl (by intro w hs; (try dsimp only at hs); go_simp; try rfl) ?_; (try simp only [Act.put, List.setIfInBounds_toArray, List.set_cons_zero, List.set_cons_succ])
              refine wpM_free 6 rfl (by kernel_rfl) rfl (by intro w; go_simp; try rfl) ?_; (try simp only [Act.put, List.setIfInBounds_toArray, List.set_cons_zero, List.set_cons_succ])
              refine wpM_free 7 rfl (by kernel_rfl) rfl (by intro w; go_simp; try rfl) ?_; (try simp only [Act.put, List.setIfInBounds_toArray, List.set_cons_zero, List.set_cons_succ])
              refine wpM_only 1 rfl (by kernel_rfl) (fun K hK => ?_)
              go_simp
              refine (c_Hash x _ _ O' HX1.out).mono ?_
              rintro e w3 ⟨hh, rfl, hh0, hh1, hq3⟩
              obtain ⟨j, hj⟩ : ∃ j : Nat, hh % (bs1.length : Int) = (j : Int) := ⟨(hh % (bs1.length : Int)).toNat, (Int.toNat_of_nonneg (Int.emod_nonneg _ (by omega))).symm⟩
              have hjl : j < bs1.length := by have := Int.emod_lt_of_pos hh (b := (bs1.length : Int)) (by omega); omega
              have hjl' : (j : Int) < (bs1.length : Int) := by omega
              have hj0 : (0 : Int) ≤ (j : Int) := by omega
              have q1 : IntKind.u64.wrap (bs1.length : Int) = (bs1.length : Int) := IntWalk.u64_in _ (by omega)
              have q2 : hh.tmod (bs1.length : Int) = (j : Int) := by rw [IntWalk.rem_in _ _ hh0]; exact hj
              have q3 : ¬ bs1.length = 0 := by omega
              refine hK.out _ _ ?_ (fun hS1 => ?_)
              · exact ⟨hq3.cell hS0.1 id, hq3.cell hS0.2.1 id, hq3.cell hS0.2.2.1 id, hq3.cell hS0.2.2.2.1 id, hq3.cell hS0.2.2.2.2 id⟩
              clear hS0 hK K; (try simp only [Act.put, List.setIfInBounds_toArray, List.set_cons_zero, List.set_cons_succ])
              refine wpM_free 8 rfl (by kernel_rfl) rfl (by intro w; go_simp; try rfl) ?_; (try simp only [Act.put, List.setIfInBounds_toArray, List.set_cons_zero, List.set_cons_succ])
              refine wpM_free 9 rfl (by kernel_rfl) rfl (by intro w; go_simp; try rfl) ?_; (try simp only [Act.put, List.setIfInBounds_toArray, List.set_cons_zero, List.set_cons_succ])
              refine wpM_done (by kernel_rfl) ?_
              have HE3 := Lib.hid (HE1.out.drew.trans hq3)
              clear hq3 hj q1 q2 q3 hh0 hh1
              go_wp2_with fail
              have HW := Lib.hid (HAr.out.ext HE3.out.drew)
              obtain ⟨⟨bkv, bkl⟩, hbk⟩ := at_some hjl
              obtain ⟨k1, k2⟩ := HW.out.bucket_at rfl hbk
              obtain ⟨Bz, bz, hv5, _, _⟩ := (HW.out.ins _ (List.mem_of_getElem? hbk)).1.shape
              simp only at hv5 k1
              subst hv5
              have HBI := Lib.hid (HW.out.ins _ (List.mem_of_getElem? hbk))
              have HBL : Hid (bkl.length ≤ k) := Lib.hid (HLN.out _ (List.mem_of_getElem? hbk))
              have HST : Hid (w3.drew.cell? ⟨p, 7, none⟩ = some (.slice (some ⟨g1, 0, none⟩) bs1.length d1) ∧ w3.drew.cell? ⟨g1, j, none⟩ = some (.slice Bz bkl.length bz)) := Lib.hid ⟨HW.out.c7, k1⟩
              have HBK := Lib.hid hbk
              clear hbk k1 k2
              refine wpM_begin (fun W => W.cell? ⟨p, 7, none⟩ = some (.slice (some ⟨g1, 0, none⟩) bs1.length d1) ∧ W.cell? ⟨g1, j, none⟩ = some (.slice Bz bkl.length bz)) [16] [0, 1, 2, 3, 4, 5, 6, 7, 8, 9, 10, 11, 12, 13, 14, 15] (by kernel_rfl) (by kernel_rfl) (HST.out) (fun hS0 hA => ?_)
              refine wpM_free 0 rfl (by kernel_rfl) rfl (by intro w; go_simp; try rfl) ?_; (try simp only [Act.put, List.setIfInBounds_toArray, List.set_cons_zero, List.set_cons_succ])
              refine wpM_free 1 rfl (by kernel_rfl) rfl (by intro w; go_simp; try rfl) ?_; (try simp only [Act.put, List.setIfInBounds_toArray, List.set_cons_zero, List.set_cons_succ])
              refine wpM_free 2 rfl (by kernel_rfl) rfl (by intro w; go_simp; try rfl) ?_; (try simp only [Act.put, List.setIfInBounds_toArray, List.set_cons_zero, List.set_cons_succ])
              refine wpM_take 3 hA hS0 rfl (by kernel_rfl) rfl (by intro w hs; (try dsimp only at hs); go_simp; try rfl) ?_; (try simp only [Act.put, List.setIfInBounds_toArray, List.set_cons_zero, List.set_cons_succ])
              refine wpM_free 4 rfl (by kernel_rfl) rfl (by intro w; go_simp; try rfl) ?_; (try simp only [Act.put, List.setIfInBounds_toArray, List.set_cons_zero, List.set_cons_succ])
              refine wpM_free 5 rfl (by kernel_rfl) rfl (by intro w; go_simp; try rfl) ?_; (try simp only [Act.put, List.setIfInBounds_toArray, List.set_cons_zero, List.set_cons_succ])
              refine wpM_free 6 rfl (by kernel_rfl) rfl (by intro w; go_simp; try rfl) ?_; (try simp only [Act.put, List.setIfInBounds_toArray, List.set_cons_zero, List.set_cons_succ])
              refine wpM_free 7 rfl (by kernel_rfl) rfl (by intro w; go_simp; try rfl) ?_; (try simp only [Act.put, List.setIfInBounds_toArray, List.set_cons_zero, List.set_cons_succ])
              refine wpM_take 8 hA hS0 rfl (by kernel_rfl) rfl (by intro w hs; (try dsimp only at hs); go_simp; try rfl) ?_; (try simp only [Act.put, List.setIfInBounds_toArray, List.set_cons_zero, List.set_cons_succ])
              refine wpM_free 9 rfl (by kernel_rfl) rfl (by intro w; go_simp; try rfl) ?_; (try simp only [Act.put, List.setIfInBounds_toArray, List.set_cons_zero, List.set_cons_succ])
              refine wpM_free 10 rfl (by kernel_rfl) rfl (by intro w; go_simp; try rfl) ?_; (try simp only [Act.put, List.setIfInBounds_toArray, List.set_cons_zero, List.set_cons_succ])
              refine wpM_take 11 hA hS0 rfl (by kernel_rfl) rfl (by intro w hs; (try dsimp only at hs); go_simp; try rfl) ?_; (try simp only [Act.put, List.setIfInBounds_toArray, List.set_cons_zero, List.set_cons_succ])
              refine wpM_free 12 rfl (by kernel_rfl) rfl (by intro w; go_simp; try rfl) ?_; (try simp only [Act.put, List.setIfInBounds_toArray, List.set_cons_zero, List.set_cons_succ])
              refine wpM_only 13 rfl (by kernel_rfl) (fun K hK => ?_)
              go_simp
              refine hK.out _ _ ?_ (fun hS1 => ?_)
              · exact ⟨((Ext.refl NoB _).alloc _).cell hS0.1 id, ((Ext.refl NoB _).alloc _).cell hS0.2 id⟩
              clear hS0 hK K; (try simp only [Act.put, List.setIfInBounds_toArray, List.set_cons_zero, List.set_cons_succ])
              refine wpM_only 14 rfl (by kernel_rfl) (fun K hK => ?_)
              refine step_append1H kInt (by decide) w3.heap.size (by rfl) rfl (.tmp 150) (.tmp 152) 28 rfl 0 3 _ 8 Tryz.underlying28 info_int rfl O' (.slice Bz bkl.length bz) rfl bkl HBI.out.1 rfl (k : Int) [_] ⟨rfl, wf_i (by omega) (by omega)⟩ HW.out.old (by omega) (by have := HBL.out; omega) (Nat.zero_le _) ?_
              intro v2 w2 hO2 hE2 hat2
              obtain ⟨T2, c2, hv, -, -⟩ := hO2.shape
              rw [List.length_append, List.length_singleton] at hv
              subst hv
              have HO2 := Lib.hid hO2
              have HE2 := Lib.hid hE2
              have HV2 := Lib.hid hat2
              have X7 := hE2.cell (HW.out.bucket_at rfl HBK.out).1 (fun e => HW.out.ne (AV.at8 _ p HBK.out) (AV.at7 _ p) (by omega) e rfl)
              have F7 := (hE2.frozen (cell_lt (HW.out.bucket_at rfl HBK.out).1) (fun e => HW.out.ne (AV.at8 _ p HBK.out) (AV.at7 _ p) (by omega) e rfl)).trans (HW.out.bucket_at rfl HBK.out).2
              have hE2 := HE2.out
              clear hO2 hat2
              refine hK.out _ _ ?_ (fun hS2 => ?_)
              · exact ⟨hE2.cell HST.out.1 (fun e => HW.out.ne (AV.at8 _ p HBK.out) (Arena.at0 _ p) (by omega) e rfl), X7⟩
              clear hS1 hK K; (try simp only [Act.put, List.setIfInBounds_toArray, List.set_cons_zero, List.set_cons_succ])
              refine wpM_free 15 rfl (by kernel_rfl) rfl (by intro w; go_simp; try rfl) ?_; (try simp only [Act.put, List.setIfInBounds_toArray, List.set_cons_zero, List.set_cons_succ])
              refine wpM_last 16 rfl (by kernel_rfl) (by decide) (fun K hK => ?_)
              go_simp
              refine hK.out _ _ ?_
              clear hK K; (try simp only [Act.put, List.setIfInBounds_toArray, List.set_cons_zero, List.set_cons_succ])
              refine wpM_done (by kernel_rfl) ?_
              have ht := Lib.hid (HW.out.turn_bucket HBK.out rfl HE2.out HV2.out HO2.out (by
                intro x hx
                rcases List.mem_append.1 hx with hx | hx
                · exact HBI.out.2.1 x hx
                · rw [List.mem_singleton.1 hx]
                  simp only [List.length_append, List.length_singleton]
                  omega) (by have := HBL.out; simp only [List.length_append, List.length_singleton]; omega))
              go_wp2_with fail
              refine ⟨⟨k + 1, by omega, by go_num, _, _, Lib.hid ⟨ht.out.1, HGR.out.trans ((Gr.of HE3.out.drew).trans (HW.out.gr_turn (AV.at8 _ p HBK.out) (HW.out.mo _ (AV.mem _ p (i := 7) (by rw [AV.at7]; rfl))) ht.out.2 HV2.out)), rfl, ?_⟩⟩, by simp [intOf]; omega⟩
              intro b hb
              rcases List.mem_or_eq_of_mem_set hb with hb | rfl
              · exact Nat.le_succ_of_le (HLN.out b hb)
              · have := HBL.out
                simp only [List.length_append, List.length_singleton]
                omega
            · obtain rfl : k = S.terms.length + 1 := by omega
              clear hA hG hlen HR c7
              go_wp2_with fail
              go_ret
              exact ⟨rfl, _, _, HAr.out, HGR.out⟩
end
end Go.Proofs.YtfpmapbimhdafaaGreatDoor
