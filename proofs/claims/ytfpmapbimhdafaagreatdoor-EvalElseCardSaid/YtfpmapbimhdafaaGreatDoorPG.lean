/- Contracts: the place of a term that an arena hasn't yet. Contracts: a sort's place in an arena. Contracts: a new arena. When all of a script may be: conditions on a dump in plain words. Contracts: a dump laid into a new arena. Contracts: a dump loaded. Contracts: what is asserted at each check-sat. -/
import Derived.Test.YtfpmapbimhdafaaGreatDoorPF
import Derived.WalkSmall
namespace Go.Proofs.YtfpmapbimhdafaaGreatDoor
open Go.RowKit
set_option linter.unusedVariables false
set_option linter.unusedSimpArgs false

/-- A function over a value that it keeps. -/
abbrev fnP (f p : Nat) : Value := .func (.func f) #[ptr p] #[]
/-- The block behind w may be written. -/
def BFz (w W : World) : Prop := ∀ j, W.frozen? ⟨w.heap.size, j, none⟩ = false
theorem BFz.ext {w W W' : World} (h : BFz w W) (hl : w.heap.size < W.heap.size) (he : Ext NoB W W') : BFz w W' := fun j => (he.frozen (p := ⟨w.heap.size, j, none⟩) hl (fun h => h)).trans (h j)
theorem Own.anyO {ik : IntKind} {w : World} {base : Nat} {e : TypeId} {O O' : Nat → Prop} {v : Value} {xs : List Int} (h : Own w base e (Kd.int ik) O v xs) : Own w base e (Kd.int ik) O' v xs := by
  obtain ⟨css, h1, h2⟩ := h
  exact ⟨css, h1, h2.mono fun _ _ h => h⟩
/-- A term's box, and the checks behind it. -/
def TmB (w : World) (u0 u1 u2 u3 : Value) (p : Nat) (W : World) : Prop :=
  Bx4 w u0 u1 u2 u3 W ∧ W.cell? ⟨w.heap.size + 1, 0, none⟩ = some (fnP 98 p) ∧ W.cell? ⟨w.heap.size + 1, 1, none⟩ = some (fnP 99 p) ∧ W.cell? ⟨w.heap.size + 1, 2, none⟩ = some (fnP 100 p) ∧ W.cell? ⟨w.heap.size + 1, 3, none⟩ = some (fnP 101 p) ∧ W.cell? ⟨w.heap.size + 1, 4, none⟩ = some (fnP 102 p) ∧ BFz w W
theorem TmB.ext {w W W' : World} {u0 u1 u2 u3 : Value} {p : Nat} (h : TmB w u0 u1 u2 u3 p W) (he : Ext NoB W W') : TmB w u0 u1 u2 u3 p W' :=
  ⟨h.1.ext he, he.cell h.2.1 id, he.cell h.2.2.1 id, he.cell h.2.2.2.1 id, he.cell h.2.2.2.2.1 id, he.cell h.2.2.2.2.2.1 id, h.2.2.2.2.2.2.ext (cell_lt h.1.1) he⟩

section
variable {w : World} {O : Nat → Prop} {p : Nat} {A : AV} {S : St}
set_option maxRecDepth 100000 in
set_option maxHeartbeats 2000000 in
theorem c_Term (h : Arena w O p A S) (t : Term) (vt : Value) (O0 : Nat → Prop) (ht : kTerm.agg w O0 t vt) (hok : TermOk S.funs S.terms.length S.ofs S.consts t) (hlo : S.ofs.length = S.terms.length) (hlc : S.consts.length = S.terms.length) (hn : S.terms.length ≤ 500) (hnew : ∀ x ∈ S.terms, x ≠ t) (hkl : t.kids.length ≤ 1000000000) :
    Calls Tryz.prog 82 #[ptr p, vt] w fun e w' => ∃ A' O', e = .returned (.tuple #[.int .i64 (S.terms.length : Int), .int .i64 0]) ∧ Arena w' O' p A' { S with terms := S.terms ++ [t], ofs := S.ofs ++ [resultT S.funs S.ofs t], consts := S.consts ++ [constT S.consts t] } ∧ Gr O w O' w' := by
  obtain ⟨B, d, rfl, HK, w0, w1', w3⟩ := term_open ht
  have HA := Lib.hid h
  have HT := Lib.hid ht
  have HKK := Lib.hid HK
  have HOK := Lib.hid hok
  have HLO := Lib.hid hlo
  have HLC := Lib.hid hlc
  have HNEW := Lib.hid hnew
  clear h ht hok HK hnew hlo hlc
  unfold ptr
  go_enter Tryz.func82, Tryz.ntmps82
  go_wp2_with fail
  go_loopw [24] (fun i wr => ∃ k : Nat, k ≤ 5 ∧ i = .int .i64 k ∧ Hid (TmB w (.int .i64 t.op) (.int .i64 t.fn) (.slice B t.kids.length d) (.string t.num) p wr)) (fun i _ => 5 - (intOf i).toNat)
  case atStart =>
    exact ⟨0, by omega, rfl, Lib.hid ⟨(Bx4.start w _ _ _ _ _).ext ((Ext.refl _ _).alloc _), by go_simp, by go_simp, by go_simp, by go_simp, by go_simp, fun j => by go_simp⟩⟩
  case round =>
    obtain ⟨k, hk, rfl, HR⟩ := hrel
    have HAr := Lib.hid (HA.out.ext HR.out.1.2.2.2.2.out)
    have HTr := Lib.hid (kTerm.aggExt HT.out HR.out.1.2.2.2.2.out.no)
    obtain ⟨⟨x0, x1, x2, x3, hE⟩, k0, k1, k2, k3, k4, hfz⟩ := HR.out
    have HFZ := Lib.hid hfz
    clear hfz
    have lx := cell_lt x0
    rcases k with _ | _ | _ | _ | _ | k
    · go_wp2_with fail
      refine (c_wrongHead HAr.out t _ O0 HTr.out HOK.out).mono ?_
      rintro e w2 ⟨rfl, he⟩
      have HE := Lib.hid he
      clear he
      go_wp2_with fail
      exact ⟨⟨1, by omega, by go_num, Lib.hid (HR.out.ext HE.out)⟩, by simp [intOf]⟩
    · go_wp2_with fail
      refine (c_wrongKids HAr.out t _ O0 HTr.out HOK.out).mono ?_
      rintro e w2 ⟨rfl, he⟩
      have HE := Lib.hid he
      clear he
      go_wp2_with fail
      exact ⟨⟨2, by omega, by go_num, Lib.hid (HR.out.ext HE.out)⟩, by simp [intOf]⟩
    · go_wp2_with fail
      refine (c_wrongCount HAr.out t _ O0 HTr.out HOK.out).mono ?_
      rintro e w2 ⟨rfl, he⟩
      have HE := Lib.hid he
      clear he
      go_wp2_with fail
      exact ⟨⟨3, by omega, by go_num, Lib.hid (HR.out.ext HE.out)⟩, by simp [intOf]⟩
    · go_wp2_with fail
      refine (c_wrongSort HAr.out t _ O0 HTr.out HOK.out HLO.out).mono ?_
      rintro e w2 ⟨rfl, he⟩
      have HE := Lib.hid he
      clear he
      go_wp2_with fail
      exact ⟨⟨4, by omega, by go_num, Lib.hid (HR.out.ext HE.out)⟩, by simp [intOf]⟩
    · go_wp2_with fail
      refine (c_wrongProduct HAr.out t _ O0 HTr.out HOK.out HLC.out).mono ?_
      rintro e w2 ⟨rfl, he⟩
      have HE := Lib.hid he
      clear he
      go_wp2_with fail
      exact ⟨⟨5, by omega, by go_num, Lib.hid (HR.out.ext HE.out)⟩, by simp [intOf]⟩
    · obtain rfl : k = 0 := by omega
      clear k0 k1 k2 k3 k4
      have HBX := Lib.hid HR.out.1
      clear hE HR
      go_wp2_with fail
      refine (c_Hash t _ _ O0 HTr.out).mono ?_
      rintro e w2 ⟨hh, rfl, hh0, hh1, hq⟩
      have HFZ2 := Lib.hid (HFZ.out.ext (cell_lt HBX.out.1) hq)
      have HBX2 := Lib.hid (HBX.out.ext hq)
      have HA2 := Lib.hid (HAr.out.ext hq)
      clear hq HBX HAr HTr x0 x1 x2 x3 lx
      obtain ⟨gb, db, hbv, _, _⟩ := HA2.out.bv_form
      have c7 := HA2.out.c7
      have hnb := HA2.out.nb
      rw [hbv] at c7
      obtain ⟨nb0, nb1⟩ := hnb
      obtain ⟨j, hj⟩ : ∃ j : Nat, hh % (A.bs.length : Int) = (j : Int) := ⟨(hh % (A.bs.length : Int)).toNat, (Int.toNat_of_nonneg (Int.emod_nonneg _ (by omega))).symm⟩
      have hjl : j < A.bs.length := by have := Int.emod_lt_of_pos hh (b := (A.bs.length : Int)) (by omega); omega
      have hjl' : (j : Int) < (A.bs.length : Int) := by omega
      have hj0 : (0 : Int) ≤ (j : Int) := by omega
      have q1 : IntKind.u64.wrap (A.bs.length : Int) = (A.bs.length : Int) := IntWalk.u64_in _ (by omega)
      have q2 : hh.tmod (A.bs.length : Int) = (j : Int) := by rw [IntWalk.rem_in _ _ hh0]; exact hj
      have q3 : ¬ A.bs.length = 0 := by omega
      obtain ⟨⟨bkv, bkl⟩, hbk⟩ := at_some hjl
      obtain ⟨k1, _⟩ := HA2.out.bucket_at hbv hbk
      have HBI := Lib.hid (HA2.out.ins _ (List.mem_of_getElem? hbk))
      obtain ⟨Bz, bz, hv5, hbz, hbm⟩ := HBI.out.1.shape
      simp only at hv5 k1 HBI
      subst hv5
      have HBV := Lib.hid hbv
      have hbl : bkl.length ≤ S.terms.length := HBI.out.2.2
      clear hbk hbv
      go_wp2_with fail
      go_quiet (fail)
      have HBX3 := Lib.hid (HBX2.out.ext ((Ext.refl NoB w2).drewN nq))
      clear k1 c7 q1 q2 q3 hj hjl hjl' hj0 HBX2
      go_wp2_with fail
      go_loopw [52] (fun i wr => ∃ k : Nat, k ≤ bkl.length ∧ i = .int .i64 k ∧ Hid (Bx4 w (.int .i64 t.op) (.int .i64 t.fn) (.slice B t.kids.length d) (.string t.num) wr ∧ Ext NoB w2 wr ∧ BFz w wr)) (fun i _ => bkl.length - (intOf i).toNat)
      case atStart => exact ⟨0, by omega, rfl, Lib.hid ⟨HBX3.out, (Ext.refl NoB w2).drewN nq, HFZ2.out⟩⟩
      case round =>
        obtain ⟨k, hk, rfl, HR⟩ := hrel
        have HAr := Lib.hid (HA2.out.ext HR.out.2.1)
        by_cases hlt : k < bkl.length
        · have HBIr := Lib.hid (HBI.out.1.ext HR.out.2.1)
          obtain ⟨gk, hgk, y1, _⟩ := HBIr.out.ints hlt
          subst hgk
          obtain ⟨h0, h1⟩ := HBI.out.2.1 (rdI bkl k) (by rw [rdI_eq hlt]; exact List.getElem_mem hlt)
          obtain ⟨m, hm⟩ : ∃ m : Nat, rdI bkl k = (m : Int) := ⟨(rdI bkl k).toNat, (Int.toNat_of_nonneg h0).symm⟩
          rw [hm] at h0 h1 y1
          have hml : m < S.terms.length := by omega
          obtain ⟨y, hy⟩ := at_some hml
          obtain ⟨gt, tc, htv⟩ := HAr.out.terms.form (by omega)
          have hterms := HAr.out.terms
          rw [htv] at hterms
          obtain ⟨By, dy, ⟨z0, z1, z2, z3⟩, hyk, yw0, yw1, yw3⟩ := hterms.term_at hy
          have HYK := Lib.hid hyk
          have c4 := HAr.out.c4
          rw [htv] at c4
          have HNE : Hid (y ≠ t) := Lib.hid (HNEW.out y (List.mem_of_getElem? hy))
          obtain ⟨x0, x1, x2, x3, hE⟩ := HR.out.1
          have HST : Hid (wr.drew.cell? ⟨w.heap.size, 0, none⟩ = some (.int .i64 t.op) ∧ wr.drew.cell? ⟨w.heap.size, 1, none⟩ = some (.int .i64 t.fn) ∧ wr.drew.cell? ⟨w.heap.size, 2, none⟩ = some (.slice B t.kids.length d) ∧ wr.drew.cell? ⟨w.heap.size, 3, none⟩ = some (.string t.num) ∧ wr.drew.cell? ⟨p, 4, none⟩ = some (.slice (some ⟨gt, 0, none⟩) S.terms.length tc) ∧ wr.drew.cell? ⟨gt, m * 4, none⟩ = some (.int .i64 y.op) ∧ wr.drew.cell? ⟨gt, m * 4 + 1, none⟩ = some (.int .i64 y.fn) ∧ wr.drew.cell? ⟨gt, m * 4 + 2, none⟩ = some (.slice By y.kids.length dy) ∧ wr.drew.cell? ⟨gt, m * 4 + 3, none⟩ = some (.string y.num)) := Lib.hid ⟨x0, x1, x2, x3, c4, z0, z1, z2, z3⟩
          have HTY := Lib.hid (tm_mk (kInts.oneKeep (O' := NoB) HYK.out ((Ext.refl O wr).drew) (fun _ _ h => h.elim)) yw0 yw1 yw3)
          have HTT := Lib.hid (tm_mk (kInts.oneKeep (O' := NoB) HKK.out (hE.out.no.drew) (fun _ _ h => h.elim)) w0 w1' w3)
          clear hyk hterms x0 x1 x2 x3 hE z0 z1 z2 z3 c4 htv hy hm
          go_wp2_with fail
          refine wpM_begin (fun W => W.cell? ⟨w.heap.size, 0, none⟩ = some (.int .i64 t.op) ∧ W.cell? ⟨w.heap.size, 1, none⟩ = some (.int .i64 t.fn) ∧ W.cell? ⟨w.heap.size, 2, none⟩ = some (.slice B t.kids.length d) ∧ W.cell? ⟨w.heap.size, 3, none⟩ = some (.string t.num) ∧ W.cell? ⟨p, 4, none⟩ = some (.slice (some ⟨gt, 0, none⟩) S.terms.length tc) ∧ W.cell? ⟨gt, m * 4, none⟩ = some (.int .i64 y.op) ∧ W.cell? ⟨gt, m * 4 + 1, none⟩ = some (.int .i64 y.fn) ∧ W.cell? ⟨gt, m * 4 + 2, none⟩ = some (.slice By y.kids.length dy) ∧ W.cell? ⟨gt, m * 4 + 3, none⟩ = some (.string y.num)) [] [0, 1, 2, 3, 4, 5, 6, 7, 8] (by kernel_rfl) (by kernel_rfl) (HST.out) (fun hS0 hA => ?_)
          refine wpM_free 0 rfl (by kernel_rfl) rfl (by intro w; go_simp; try rfl) ?_; (try simp only [Act.put, List.setIfInBounds_toArray, List.set_cons_zero, List.set_cons_succ])
          refine wpM_free 1 rfl (by kernel_rfl) rfl (by intro w; go_simp; try rfl) ?_; (try simp only [Act.put, List.setIfInBounds_toArray, List.set_cons_zero, List.set_cons_succ])
          refine wpM_free 2 rfl (by kernel_rfl) rfl (by intro w; go_simp; try rfl) ?_; (try simp only [Act.put, List.setIfInBounds_toArray, List.set_cons_zero, List.set_cons_succ])
          refine wpM_take 3 hA hS0 rfl (by kernel_rfl) rfl (by intro w hs; (try dsimp only at hs); go_simp; try rfl) ?_; (try simp only [Act.put, List.setIfInBounds_toArray, List.set_cons_zero, List.set_cons_succ])
          refine wpM_free 4 rfl (by kernel_rfl) rfl (by intro w; go_simp; try rfl) ?_; (try simp only [Act.put, List.setIfInBounds_toArray, List.set_cons_zero, List.set_cons_succ])
          refine wpM_free 5 rfl (by kernel_rfl) rfl (by intro w; go_simp; try rfl) ?_; (try simp only [Act.put, List.setIfInBounds_toArray, List.set_cons_zero, List.set_cons_succ])
          refine wpM_take 6 hA hS0 rfl (by kernel_rfl) rfl (by intro w hs; (try dsimp only at hs); go_simp; try rfl) ?_; (try simp only [Act.put, List.setIfInBounds_toArray, List.set_cons_zero, List.set_cons_succ])
          refine wpM_take 7 hA hS0 rfl (by kernel_rfl) rfl (by intro w hs; (try dsimp only at hs); go_simp; try rfl) ?_; (try simp only [Act.put, List.setIfInBounds_toArray, List.set_cons_zero, List.set_cons_succ])
          refine wpM_only 8 rfl (by kernel_rfl) (fun K hK => ?_)
          go_simp
          refine (c_dsame y t _ _ _ NoB HTY.out HTT.out).mono ?_
          rintro e w3 ⟨b, rfl, hb, hq3⟩
          have hb' : b = false := by cases b with | false => rfl | true => exact absurd (hb rfl) HNE.out
          subst hb'
          clear hb
          refine hK.out _ _ ?_ (fun hS1 => ?_)
          · exact ⟨hq3.cell hS0.1 id, hq3.cell hS0.2.1 id, hq3.cell hS0.2.2.1 id, hq3.cell hS0.2.2.2.1 id, hq3.cell hS0.2.2.2.2.1 id, hq3.cell hS0.2.2.2.2.2.1 id, hq3.cell hS0.2.2.2.2.2.2.1 id, hq3.cell hS0.2.2.2.2.2.2.2.1 id, hq3.cell hS0.2.2.2.2.2.2.2.2 id⟩
          clear hS0 hK K; (try simp only [Act.put, List.setIfInBounds_toArray, List.set_cons_zero, List.set_cons_succ])
          refine wpM_done (by kernel_rfl) ?_
          clear hS1
          have HE3 := Lib.hid ((Ext.refl NoB wr).drew.trans hq3)
          clear hq3
          go_wp2_with fail
          exact ⟨⟨k + 1, by omega, by go_num, Lib.hid ⟨HR.out.1.ext HE3.out, HR.out.2.1.trans HE3.out, HR.out.2.2.ext (cell_lt HR.out.1.1) HE3.out⟩⟩, by simp [intOf]; omega⟩
        · obtain rfl : k = bkl.length := by omega
          clear hlt
          have c4 := HAr.out.c4
          obtain ⟨T, tc, htv, _, _⟩ := HAr.out.terms.shape
          rw [htv] at c4
          obtain ⟨most, hmost, c0⟩ : ∃ most : Int, decide (most ≤ (S.terms.length : Int)) = false ∧ wr.cell? ⟨p, 0, none⟩ = some (.int .i64 most) := ⟨1048576, by rw [decide_eq_false_iff_not]; omega, HAr.out.c0⟩
          obtain ⟨x0, x1, x2, x3, hE⟩ := HR.out.1
          have lx := cell_lt x0
          clear htv
          go_wp2_with fail
          go_quiet (fail)
          go_wp2_with fail
          have hE4 := hE.out.trans ((Ext.refl NoB wr).drewN nq)
          refine (c_copied _ t.kids _ NoB (kInts.oneKeep (O' := NoB) HKK.out hE4.no (fun _ _ h => h.elim)) hkl).mono ?_
          rintro e w4 ⟨v4, rfl, hown, he⟩
          have hE5 := hE4.trans he
          have hV := (hown.anyO (O' := Plus O w.heap.size)).slice (pos := Nat.one_pos) (by
            rintro b (hb | rfl)
            · exact Nat.lt_of_lt_of_le (HA.out.old b hb) hE4.size
            · exact lx)
          obtain ⟨V, vc, hv4, _, _⟩ := hown.shape
          subst hv4
          have HV := Lib.hid hV
          have HE5 := Lib.hid hE5
          replace x0 := he.cell x0 (fun h => h)
          replace x1 := he.cell x1 (fun h => h)
          replace x2 := he.cell x2 (fun h => h)
          replace x3 := he.cell x3 (fun h => h)
          have f2 := (he.frozen (p := ⟨w.heap.size, 2, none⟩) lx (fun h => h)).trans (HR.out.2.2 2)
          clear hown hV hE hE4 hE5 c0 c4 HR he
          go_wp2_with fail
          have hE6 : Ext NoB w (w4.setCell ⟨w.heap.size, 2, none⟩ (.slice V t.kids.length vc)) := HE5.out.setNew (Nat.le_refl _) _
          have HV6 : Hid (kTerm.agg (w4.setCell ⟨w.heap.size, 2, none⟩ (.slice V t.kids.length vc)) O t (.agg #[.int .i64 t.op, .int .i64 t.fn, .slice V t.kids.length vc, .string t.num])) := Lib.hid (tm_mk (kInts.oneMinus HV.out ((Ext.refl (Plus O w.heap.size) w4).setO (p := ⟨w.heap.size, 2, none⟩) (Plus.here O _) _)) w0 w1' w3)
          have HE6 := Lib.hid hE6
          clear hE6
          refine (c_add (HA.out.ext HE6.out) t _ HV6.out hh hh0 hh1 HOK.out HLO.out HLC.out hn).mono ?_
          rintro e w7 ⟨A', O', rfl, hA7, hG7⟩
          have HA7 := Lib.hid hA7
          have HG7 := Lib.hid ((Gr.of (O := O) HE6.out).trans hG7)
          clear hA7 hG7
          go_wp2_with fail
          go_ret2
          exact ⟨_, _, rfl, HA7.out, HG7.out⟩
end
end Go.Proofs.YtfpmapbimhdafaaGreatDoor

namespace Go.Proofs.YtfpmapbimhdafaaGreatDoor
open Go.RowKit
set_option linter.unusedVariables false
set_option linter.unusedSimpArgs false

/-- 'm[k] = v' of a key that isn't there. -/
theorem wpl_mapUpdate {P : Program} {ops : Array Oper} {rest : List Oper} {o : Oper} {a : Act} {Q : Exit → Act → World → Prop} {κ : Type} [BEq κ] {kv : κ → Value} {d : TypeDesc} {w : World} (hgd : o.guard = none) (m k v : Operand) (t kt et : TypeId)
    (ho : o.op = .mapUpdate t m k v) (r : Nat) (hm : a.eval m = .map (some r)) (key : κ) (hk : a.eval k = kv key) (val : Value) (hv : a.eval v = val) (es : List (κ × Value)) (h : MapHas kv w r es)
    (hs : ∀ a b, Instr.sameNow d (kv a) (kv b) = some (a == b)) (hkey : ∀ a, MapKept.IsKey d (kv a)) (ht : P.underlying t = some (.map kt et)) (hd : P.underlying kt = some d) (hn : lookK key es = none)
    (hK : ∀ w', MapHas kv w' r (es ++ [(key, val)]) → Ext (fun b => b = r) w w' → wpList P ops Q rest (a.put o.dst undef) w') : wpList P ops Q (o :: rest) a w := by
  refine wpList_plain hgd fun K hK' => ?_
  obtain ⟨w', hrun, h1, h2⟩ := run_update_new (P := P) h hs hkey ht hd key val hn
  unfold Oper.wp execOp
  simp only [ho, hm, hk, hv]
  simp [hrun, Result.andThen]
  exact hK' _ _ (hK w' h1 h2)

section
variable {w w1 : World} {O : Nat → Prop} {p : Nat} {A : AV} {S : St}
theorem Arena.turn_keys (h : Arena w O p A S) {l : List Srt} (he : Ext (fun b => b = A.r) w w1) (hm : MapHas Value.string w1 A.r (keyList l 0)) : Arena w1 O p A { S with keyed := l } := by
  have hr : O A.r := h.mo _ (A.mo_r p)
  have np : ¬ p = A.r := fun e => h.ne (Arena.at0 A p) (Arena.at1 A p) (by decide) rfl (by rw [e])
  have hrow : ∀ {j : Nat} {u : Value}, (A.own p)[j]? = some u.ownBlock → j ≠ 1 → ∀ b, b < w.heap.size → b = A.r → O b ∧ u.ownBlock ≠ some b := fun hj h0 b hb e => ⟨e ▸ hr, fun e2 => h.ne (Arena.at1 A p) hj (Ne.symm h0) rfl (by rw [e2, e])⟩
  have hO2 : ∀ b, b < w.heap.size → O b → O b := fun _ _ h => h
  refine ⟨h.old.ext he, h.mo, h.sep, he.cell h.c0 np, he.cell h.c1 np, he.cell h.c2 np, he.cell h.c3 np, he.cell h.c4 np, he.cell h.c5 np, he.cell h.c6 np, he.cell h.c7 np, fun j => (he.frozen h.pl np).trans (h.fz j), hm,
    h.sorts.move he (hrow (A.at2 p) (by decide)) hO2, h.funs.move he (hrow (A.at3 p) (by decide)) hO2, h.terms.move he (hrow (A.at4 p) (by decide)) hO2, h.ofs.move he (hrow (A.at5 p) (by decide)) hO2, h.consts.move he (hrow (A.at6 p) (by decide)) hO2, h.bks.move he (hrow (A.at7 p) (by decide)) hO2, fun b hb => ?_, h.nb⟩
  obtain ⟨i, hi⟩ := List.getElem?_of_mem hb
  have h0 := h.ins b hb
  exact ⟨h0.1.move he (hrow (A.at8 p hi) (by omega)) hO2, h0.2⟩

/-- The sorts that an arena has, as they are looked for. -/
def SortsOk (S : St) : Prop := S.keyed = S.sorts ∧ S.sorts.length ≤ 50 ∧ ∀ s ∈ S.sorts, ArgsOk 100 s.args

theorem look_none {l : List Srt} {name : ByteArray} {args : List Int} (ha : ArgsOk 100 args) (hl : ∀ s ∈ l, ArgsOk 100 s.args) (hne : ∀ s ∈ l, ¬ (s.name = name ∧ s.args = args)) : lookK (keyOf name args) (keyList l 0) = none :=
  lookK_none fun s hs e => hne s hs (keyOf_inj (hl s hs) ha e)
theorem look_hit {l : List Srt} {name : ByteArray} {args : List Int} (ha : ArgsOk 100 args) (hl : ∀ s ∈ l, ArgsOk 100 s.args) {i : Nat} {s : Srt} (hi : l[i]? = some s) (hs : s.name = name ∧ s.args = args) (hne : ∀ k x, k < i → l[k]? = some x → ¬ (x.name = name ∧ x.args = args)) : lookK (keyOf name args) (keyList l 0) = some (.int .i64 (i : Int)) := by
  have := lookK_hit (key := keyOf name args) (s := s) (by rw [hs.1, hs.2]) (l := l) (i := 0) (j := i) hi (fun k x hk hx e => hne k x hk hx (keyOf_inj (hl x (List.mem_of_getElem? hx)) ha e))
  rwa [Nat.zero_add] at this

set_option maxRecDepth 100000 in
set_option maxHeartbeats 1000000 in
theorem c_Sort_old (h : Arena w O p A S) (hs : SortsOk S) (name : ByteArray) (va : Value) (args : List Int) (O0 : Nat → Prop) (ha : kInts.one w O0 args va) (hok : ArgsOk S.sorts.length args) (hl : args.length ≤ 1000) (hn : name.size ≤ 1000)
    (i : Nat) (s : Srt) (hi : S.sorts[i]? = some s) (hsn : s.name = name ∧ s.args = args) (hne : ∀ k x, k < i → S.sorts[k]? = some x → ¬ (x.name = name ∧ x.args = args)) :
    Calls Tryz.prog 80 #[ptr p, .string name, va] w fun e w' => e = .returned (.tuple #[.int .i64 (i : Int), .int .i64 0]) ∧ Ext NoB w w' := by
  have hok' : ArgsOk 100 args := fun k hk => by have := hok k hk; have := hs.2.1; omega
  have HL := Lib.hid (look_hit hok' hs.2.2 hi hsn hne)
  have HA := Lib.hid h
  have HV := Lib.hid ha
  have HV0 := Lib.hid (kInts.oneKeep (O' := NoB) ha (Ext.refl O0 w) (fun _ _ h => h.elim))
  have HOK := Lib.hid hok
  have HOK' := Lib.hid hok'
  have HS := Lib.hid hs
  clear h ha hok hok' hs hi hsn hne
  unfold ptr
  go_enter Tryz.func80, Tryz.ntmps80
  go_wp2_with fail
  refine (c_areSorts HA.out va args O0 HV.out HOK.out).mono ?_
  rintro e w2 ⟨rfl, he⟩
  have HE2 := Lib.hid he
  clear he
  go_wp2_with fail
  refine (c_sortKey name va args w2 NoB (kInts.oneExt HV0.out HE2.out.no) (fun _ h => h.elim) HOK'.out hl hn).mono ?_
  rintro e w3 ⟨rfl, he⟩
  have HE3 := Lib.hid (HE2.out.trans he)
  clear he HE2
  have HA3 := Lib.hid (HA.out.ext HE3.out)
  have c2 := HA3.out.c2
  have hz : (zeroValue 3).run Tryz.prog w3 = .ok (.int .i64 0) w3 := by kernel_rfl
  have hrun := run_lookup_has (P := Tryz.prog) HA3.out.keys same_str key_str Tryz.underlying104 Tryz.underlying9 hz (keyOf name args)
  rw [HS.out.1, HL.out] at hrun
  simp only [Option.getD_some, Option.isSome_some] at hrun
  clear hz
  generalize keyOf name args = ky at *
  go_wp2_with fail
  go_ret2
  exact ⟨rfl, HE3.out⟩

set_option maxRecDepth 100000 in
set_option maxHeartbeats 2000000 in
theorem c_Sort_new (h : Arena w O p A S) (hs : SortsOk S) (name : ByteArray) (va : Value) (args : List Int) (ha : kInts.one w O args va) (hok : ArgsOk S.sorts.length args) (hl : args.length ≤ 1000) (hn : name.size ≤ 1000)
    (hne : ∀ x ∈ S.sorts, ¬ (x.name = name ∧ x.args = args)) :
    Calls Tryz.prog 80 #[ptr p, .string name, va] w fun e w' => ∃ A' O', e = .returned (.tuple #[.int .i64 (S.sorts.length : Int), .int .i64 0]) ∧ Arena w' O' p A' { S with keyed := S.sorts ++ [⟨name, args⟩], sorts := S.sorts ++ [⟨name, args⟩] } ∧ Gr O w O' w' := by
  have hok' : ArgsOk 100 args := fun k hk => by have := hok k hk; have := hs.2.1; omega
  have HL := Lib.hid (look_none hok' hs.2.2 hne)
  have HA := Lib.hid h
  have HV := Lib.hid ha
  have HV0 := Lib.hid (kInts.oneKeep (O' := NoB) ha (Ext.refl O w) (fun _ _ h => h.elim))
  have HOK := Lib.hid hok
  have HOK' := Lib.hid hok'
  have HS := Lib.hid hs
  have hlen := hs.2.1
  clear h ha hok hok' hs hne
  unfold ptr
  go_enter Tryz.func80, Tryz.ntmps80
  go_wp2_with fail
  refine (c_areSorts HA.out va args O HV.out HOK.out).mono ?_
  rintro e w2 ⟨rfl, he⟩
  have HE2 := Lib.hid he
  clear he
  go_wp2_with fail
  refine (c_sortKey name va args w2 NoB (kInts.oneExt HV0.out HE2.out.no) (fun _ h => h.elim) HOK'.out hl hn).mono ?_
  rintro e w3 ⟨rfl, he⟩
  have HE3 := Lib.hid (HE2.out.trans he)
  clear he HE2
  have HA3 := Lib.hid (HA.out.ext HE3.out)
  have c2 := HA3.out.c2
  have c1 := HA3.out.c1
  obtain ⟨T, tc, hT, _, _⟩ := HA3.out.sorts.shape
  rw [hT] at c1
  have hz : (zeroValue 3).run Tryz.prog w3 = .ok (.int .i64 0) w3 := by kernel_rfl
  have hrun := run_lookup_has (P := Tryz.prog) HA3.out.keys same_str key_str Tryz.underlying104 Tryz.underlying9 hz (keyOf name args)
  rw [HS.out.1, HL.out] at hrun
  simp only [Option.getD_none, Option.isSome_none] at hrun
  have HKY : Hid (keyOf name args = keyOf name args) := Lib.hid rfl
  have HKL : Hid (keyList S.sorts 0 ++ [(keyOf name args, .int .i64 (S.sorts.length : Int))] = keyList (S.sorts ++ [⟨name, args⟩]) 0) := Lib.hid (by rw [keyList_append]; simp)
  have HT := Lib.hid hT
  clear hz hT HKY
  generalize keyOf name args = ky at *
  go_wp2_with ((refine wpl_mapUpdate rfl (.tmp 37) (.tmp 38) (.tmp 39) 104 9 3 rfl A.r rfl ky rfl (.int .i64 (S.sorts.length : Int)) rfl (keyList S.sorts 0) (by have := HA3.out.keys; rwa [HS.out.1] at this) same_str key_str Tryz.underlying104 Tryz.underlying9 HL.out ?_); intro w4 hm4 hE4; (have HM4 := Lib.hid hm4); (have HE4 := Lib.hid hE4); clear hm4 hE4)
  have HA4 := Lib.hid (HA3.out.turn_keys HE4.out (HKL.out ▸ HM4.out))
  have HG4 : Hid (Gr O w O w4) := Lib.hid ((Gr.of HE3.out).trans ⟨HE4.out.mono (fun b _ e => e ▸ HA3.out.mo _ (A.mo_r p)), fun _ _ h => h⟩)
  have HV4 := Lib.hid (kInts.oneKeep (O' := O) HV.out HG4.out.1 (fun _ _ h => h))
  have HST : Hid (w4.drew.cell? ⟨p, 1, none⟩ = some (.slice T S.sorts.length tc)) := Lib.hid (by have := HA4.out.c1; rw [HT.out] at this; exact this)
  clear c1 c2 hrun
  go_wp2_with fail
  refine wpM_begin (fun W => W.cell? ⟨p, 1, none⟩ = some (.slice T S.sorts.length tc)) [10, 13] [1, 2, 3, 4, 5, 6, 7, 8, 9] (by kernel_rfl) (by kernel_rfl) (HST.out) (fun hS0 hA => ?_)
  refine wpM_free 0 rfl (by kernel_rfl) rfl (by intro w; go_simp; try rfl) ?_; (try simp only [Act.put, List.setIfInBounds_toArray, List.set_cons_zero, List.set_cons_succ])
  refine wpM_free 1 rfl (by kernel_rfl) rfl (by intro w; go_simp; try rfl) ?_; (try simp only [Act.put, List.setIfInBounds_toArray, List.set_cons_zero, List.set_cons_succ])
  refine wpM_free 2 rfl (by kernel_rfl) rfl (by intro w; go_simp; try rfl) ?_; (try simp only [Act.put, List.setIfInBounds_toArray, List.set_cons_zero, List.set_cons_succ])
  refine wpM_free 3 rfl (by kernel_rfl) rfl (by intro w; go_simp; try rfl) ?_; (try simp only [Act.put, List.setIfInBounds_toArray, List.set_cons_zero, List.set_cons_succ])
  refine wpM_take 4 hA hS0 rfl (by kernel_rfl) rfl (by intro w hs; (try dsimp only at hs); go_simp; try rfl) ?_; (try simp only [Act.put, List.setIfInBounds_toArray, List.set_cons_zero, List.set_cons_succ])
  refine wpM_free 5 rfl (by kernel_rfl) rfl (by intro w; go_simp; try rfl) ?_; (try simp only [Act.put, List.setIfInBounds_toArray, List.set_cons_zero, List.set_cons_succ])
  refine wpM_free 6 rfl (by kernel_rfl) rfl (by intro w; go_simp; try rfl) ?_; (try simp only [Act.put, List.setIfInBounds_toArray, List.set_cons_zero, List.set_cons_succ])
  refine wpM_only 7 rfl (by kernel_rfl) (fun K hK => ?_)
  go_simp
  refine (c_copied va args w4.drew O HV4.out (by omega)).mono ?_
  rintro e w5 ⟨v5, rfl, hown, hq5⟩
  obtain ⟨V, vc, hv5, _, _⟩ := hown.shape
  subst hv5
  have HE5 := Lib.hid ((Ext.refl NoB w4).drew.trans hq5)
  have HA5 := Lib.hid (HA4.out.ext HE5.out)
  have HOW := Lib.hid hown
  clear hown
  refine hK.out _ _ ?_ (fun hS1 => ?_)
  · exact hq5.cell hS0 id
  clear hS0 hK K; (try simp only [Act.put, List.setIfInBounds_toArray, List.set_cons_zero, List.set_cons_succ])
  refine wpM_free 8 rfl (by kernel_rfl) rfl (by intro w; go_simp; try rfl) ?_; (try simp only [Act.put, List.setIfInBounds_toArray, List.set_cons_zero, List.set_cons_succ])
  refine wpM_only 9 rfl (by kernel_rfl) (fun K hK => ?_)
  go_simp
  refine hK.out _ _ ?_ (fun hS2 => ?_)
  · exact ((Ext.refl NoB _).alloc _).cell hS1 id
  clear hS1 hK K; (try simp only [Act.put, List.setIfInBounds_toArray, List.set_cons_zero, List.set_cons_succ])
  refine wpM_last 10 rfl (by kernel_rfl) (by decide) (fun K hK => ?_)
  have ho5 : Own w5 0 74 kSrt O (.slice T S.sorts.length tc) S.sorts := by have := HA5.out.sorts; rwa [HT.out] at this
  have hx5 : kSrt.rep w5 (PlusV O (.slice T S.sorts.length tc)) ⟨name, args⟩ [.string name, .slice V args.length vc] := kSrt_iff.2 ⟨_, rfl, by unfold maxLen; exact Nat.le_trans hn (by decide), (HOW.out.anyO (O' := PlusV O (.slice T S.sorts.length tc))).slice (pos := Nat.one_pos) (by
    rintro b (hb | hb)
    · exact Nat.lt_of_lt_of_le (HA4.out.old b hb) (Nat.le_refl _)
    · exact HA4.out.old b (HA4.out.mo b (AV.mem _ p (i := 2) (by rw [AV.at2]; exact congrArg some (HT.out ▸ hb)))))⟩
  have hold5 : ∀ b, O b → b < w5.heap.size := HA5.out.old
  refine step_append1H kSrt (by decide) w5.heap.size (by rfl) rfl (.tmp 44) (.tmp 49) 22 rfl 0 74 _ 40 Tryz.underlying22 info_Sort rfl O (.slice T S.sorts.length tc) rfl S.sorts ho5 rfl ⟨name, args⟩ [_, _] hx5 hold5 (by omega) (by omega) (Nat.zero_le _) ?_
  intro v2 w2 hO2 hE2 hat2
  obtain ⟨T2, c2, hv, -, -⟩ := hO2.shape
  rw [List.length_append, List.length_singleton] at hv
  subst hv
  have hTb : (Value.slice T S.sorts.length tc).ownBlock = A.sv.ownBlock := by rw [HT.out]
  rw [hTb] at hat2
  have HO2 := Lib.hid hO2
  have HE2 : Hid (Ext (fun b => A.sv.ownBlock = some b) w5 w2) := Lib.hid (hTb ▸ hE2)
  have HV2 := Lib.hid hat2
  have X1 := HE2.out.cell HA5.out.c1 (fun e => HA5.out.ne (AV.at2 _ p) (Arena.at0 _ p) (by decide) e rfl)
  have F1 := (HE2.out.frozen HA5.out.pl (fun e => HA5.out.ne (AV.at2 _ p) (Arena.at0 _ p) (by decide) e rfl)).trans (HA5.out.fz 1)
  clear hO2 hE2 hat2 hTb ho5 hx5 hold5
  refine hK.out _ _ ?_
  clear hK K; (try simp only [Act.put, List.setIfInBounds_toArray, List.set_cons_zero, List.set_cons_succ])
  refine wpM_free 11 rfl (by kernel_rfl) rfl (by intro w; go_simp; try rfl) ?_; (try simp only [Act.put, List.setIfInBounds_toArray, List.set_cons_zero, List.set_cons_succ])
  refine wpM_free 12 rfl (by kernel_rfl) rfl (by intro w; go_simp; try rfl) ?_; (try simp only [Act.put, List.setIfInBounds_toArray, List.set_cons_zero, List.set_cons_succ])
  refine wpM_last 13 rfl (by kernel_rfl) (by decide) (fun K hK => ?_)
  go_simp
  refine hK.out _ _ ?_
  clear hK K; (try simp only [Act.put, List.setIfInBounds_toArray, List.set_cons_zero, List.set_cons_succ])
  refine wpM_done (by kernel_rfl) ?_
  have ht := Lib.hid (HA5.out.turn_sv HE2.out HV2.out HO2.out)
  go_wp2_with fail
  go_ret2
  exact ⟨rfl, _, _, ht.out.1, HG4.out.trans ((Gr.of HE5.out).trans (HA5.out.gr_turn (AV.at2 _ p) HA5.out.po ht.out.2 HV2.out))⟩

theorem fun_open {w : World} {O : Nat → Prop} {f : Fun} {v : Value} (h : kFun.agg w O f v) : ∃ A c, v = .agg #[.string f.name, .slice A f.args.length c, .int .i64 f.result] ∧ kInts.one w O f.args (.slice A f.args.length c) ∧ f.name.size ≤ maxLen ∧ (Lit.int .i64 f.result).wf = true := by
  obtain ⟨cs, rfl, h⟩ := h
  obtain ⟨v, rfl, h1, h3, h4⟩ := kFun_iff.1 h
  have h3' := h3
  obtain ⟨A, c, rfl, _⟩ := Kd.one_slice h3'
  exact ⟨A, c, rfl, h3, h1, h4⟩
theorem fun_mk {w : World} {O : Nat → Prop} {f : Fun} {v : Value} (h : kInts.one w O f.args v) (h0 : f.name.size ≤ maxLen) (h1 : (Lit.int .i64 f.result).wf = true) : kFun.agg w O f (.agg #[.string f.name, v, .int .i64 f.result]) := ⟨_, rfl, kFun_iff.2 ⟨_, rfl, h0, h, h1⟩⟩
theorem rdI_one (x : Int) : rdI [x] 0 = x := rfl

set_option maxRecDepth 100000 in
set_option maxHeartbeats 2000000 in
theorem c_Fun (h : Arena w O p A S) (f : Fun) (vf : Value) (O0 : Nat → Prop) (hf : kFun.agg w O0 f vf) (hok : ArgsOk S.sorts.length f.args) (hr0 : 0 ≤ f.result) (hr1 : f.result < S.sorts.length) (hl : f.args.length ≤ 1000000000) (hn : S.funs.length ≤ 500) :
    Calls Tryz.prog 81 #[ptr p, vf] w fun e w' => ∃ A' O', e = .returned (.tuple #[.int .i64 (S.funs.length : Int), .int .i64 0]) ∧ Arena w' O' p A' { S with funs := S.funs ++ [f] } ∧ Gr O w O' w' := by
  obtain ⟨B, d, rfl, hk, wn, wr⟩ := fun_open hf
  have HA := Lib.hid h
  have HK := Lib.hid (kInts.oneKeep (O' := NoB) hk (Ext.refl O0 w) (fun _ _ h => h.elim))
  have HOK := Lib.hid hok
  clear h hf hok hk
  unfold ptr
  go_enter Tryz.func81, Tryz.ntmps81
  go_wp2_with fail
  have HE1 : Hid (Ext NoB w (w.alloc (Obj.cells #[.string f.name, .slice B f.args.length d, .int .i64 f.result] 71))) := Lib.hid ((Ext.refl _ _).alloc _)
  refine (c_areSorts (HA.out.ext HE1.out) _ f.args NoB (kInts.oneExt HK.out HE1.out) HOK.out).mono ?_
  rintro e w2 ⟨rfl, he⟩
  have x0 : w2.cell? ⟨w.heap.size, 0, none⟩ = some (.string f.name) := he.cell (by go_simp) (fun h => h)
  have x1 : w2.cell? ⟨w.heap.size, 1, none⟩ = some (.slice B f.args.length d) := he.cell (by go_simp) (fun h => h)
  have x2 : w2.cell? ⟨w.heap.size, 2, none⟩ = some (.int .i64 f.result) := he.cell (by go_simp) (fun h => h)
  have f1 : w2.frozen? ⟨w.heap.size, 1, none⟩ = false := (he.frozen (by simp) (fun h => h)).trans (by go_simp)
  have HE2 := Lib.hid (HE1.out.trans he)
  have lx := cell_lt x0
  clear he HE1
  go_wp2_with fail
  have hE3 : Ext NoB w2 (w2.alloc (Obj.cells #[.int .i64 f.result] 3)) := (Ext.refl _ _).alloc _
  refine (c_areSorts ((HA.out.ext HE2.out).ext hE3) _ [f.result] NoB (lit_one (k := kInt) (pos := Nat.one_pos) (cs := [_]) ⟨rfl, wr⟩ (fun h => h)) (fun k hk => by
    obtain rfl : k = 0 := by simpa using hk
    rw [rdI_one]
    exact ⟨hr0, hr1⟩)).mono ?_
  rintro e w3 ⟨rfl, he⟩
  have hE4 := hE3.trans he
  replace x0 := hE4.cell x0 (fun h => h)
  replace x1 := hE4.cell x1 (fun h => h)
  replace x2 := hE4.cell x2 (fun h => h)
  replace f1 := (hE4.frozen lx (fun h => h)).trans f1
  have HE3 := Lib.hid (HE2.out.trans hE4)
  replace lx := cell_lt x0
  clear hE3 he hE4 HE2
  go_wp2_with fail
  refine (c_copied _ f.args _ NoB (kInts.oneExt HK.out HE3.out) hl).mono ?_
  rintro e w4 ⟨v4, rfl, hown, he⟩
  have hV := (hown.anyO (O' := Plus O w.heap.size)).slice (pos := Nat.one_pos) (by
    rintro b (hb | rfl)
    · exact Nat.lt_of_lt_of_le (HA.out.old b hb) HE3.out.size
    · exact lx)
  obtain ⟨V, vc, hv4, _, _⟩ := hown.shape
  subst hv4
  have HV := Lib.hid hV
  replace x0 := he.cell x0 (fun h => h)
  replace x1 := he.cell x1 (fun h => h)
  replace x2 := he.cell x2 (fun h => h)
  replace f1 := (he.frozen lx (fun h => h)).trans f1
  have HE4 := Lib.hid (HE3.out.trans he)
  clear he hown hV HE3
  have hE5 : Ext NoB w (w4.setCell ⟨w.heap.size, 1, none⟩ (.slice V f.args.length vc)) := HE4.out.setNew (Nat.le_refl _) _
  have HV5 := Lib.hid (kInts.oneMinus HV.out ((Ext.refl (Plus O w.heap.size) w4).setO (p := ⟨w.heap.size, 1, none⟩) (Plus.here O _) (.slice V f.args.length vc)))
  have HA5 := Lib.hid (HA.out.ext hE5)
  obtain ⟨T, tc, hT, _, _⟩ := HA5.out.funs.shape
  have HT := Lib.hid hT
  have HST : Hid (((w4.setCell ⟨w.heap.size, 1, none⟩ (.slice V f.args.length vc)).drew).cell? ⟨p, 3, none⟩ = some (.slice T S.funs.length tc) ∧ ((w4.setCell ⟨w.heap.size, 1, none⟩ (.slice V f.args.length vc)).drew).cell? ⟨w.heap.size, 0, none⟩ = some (.string f.name) ∧ ((w4.setCell ⟨w.heap.size, 1, none⟩ (.slice V f.args.length vc)).drew).cell? ⟨w.heap.size, 1, none⟩ = some (.slice V f.args.length vc) ∧ ((w4.setCell ⟨w.heap.size, 1, none⟩ (.slice V f.args.length vc)).drew).cell? ⟨w.heap.size, 2, none⟩ = some (.int .i64 f.result)) :=
    Lib.hid ⟨by have := HA5.out.c3; rw [HT.out] at this; exact this, by go_simp, by go_simp, by go_simp⟩
  have HE5 := Lib.hid hE5
  clear hE5 hT HV
  go_wp2_with fail
  generalize w4.setCell ⟨w.heap.size, 1, none⟩ (.slice V f.args.length vc) = w5 at *
  have HA6 := Lib.hid (HA5.out.ext (Ext.refl NoB w5).drew)
  clear x0 x1 x2 f1
  refine wpM_begin (fun W => W.cell? ⟨p, 3, none⟩ = some (.slice T S.funs.length tc) ∧ W.cell? ⟨w.heap.size, 0, none⟩ = some (.string f.name) ∧ W.cell? ⟨w.heap.size, 1, none⟩ = some (.slice V f.args.length vc) ∧ W.cell? ⟨w.heap.size, 2, none⟩ = some (.int .i64 f.result)) [7, 10] [1, 2, 3, 4, 5, 6] (by kernel_rfl) (by kernel_rfl) (HST.out) (fun hS0 hA => ?_)
  refine wpM_free 0 rfl (by kernel_rfl) rfl (by intro w; go_simp; try rfl) ?_; (try simp only [Act.put, List.setIfInBounds_toArray, List.set_cons_zero, List.set_cons_succ])
  refine wpM_free 1 rfl (by kernel_rfl) rfl (by intro w; go_simp; try rfl) ?_; (try simp only [Act.put, List.setIfInBounds_toArray, List.set_cons_zero, List.set_cons_succ])
  refine wpM_free 2 rfl (by kernel_rfl) rfl (by intro w; go_simp; try rfl) ?_; (try simp only [Act.put, List.setIfInBounds_toArray, List.set_cons_zero, List.set_cons_succ])
  refine wpM_free 3 rfl (by kernel_rfl) rfl (by intro w; go_simp; try rfl) ?_; (try simp only [Act.put, List.setIfInBounds_toArray, List.set_cons_zero, List.set_cons_succ])
  refine wpM_take 4 hA hS0 rfl (by kernel_rfl) rfl (by intro w hs; (try dsimp only at hs); go_simp; try rfl) ?_; (try simp only [Act.put, List.setIfInBounds_toArray, List.set_cons_zero, List.set_cons_succ])
  refine wpM_take 5 hA hS0 rfl (by kernel_rfl) rfl (by intro w hs; (try dsimp only at hs); go_simp; try rfl) ?_; (try simp only [Act.put, List.setIfInBounds_toArray, List.set_cons_zero, List.set_cons_succ])
  refine wpM_only 6 rfl (by kernel_rfl) (fun K hK => ?_)
  go_simp
  refine hK.out _ _ ?_ (fun hS1 => ?_)
  · exact ⟨((Ext.refl NoB _).alloc _).cell hS0.1 id, ((Ext.refl NoB _).alloc _).cell hS0.2.1 id, ((Ext.refl NoB _).alloc _).cell hS0.2.2.1 id, ((Ext.refl NoB _).alloc _).cell hS0.2.2.2 id⟩
  clear hS0 hK K; (try simp only [Act.put, List.setIfInBounds_toArray, List.set_cons_zero, List.set_cons_succ])
  refine wpM_last 7 rfl (by kernel_rfl) (by decide) (fun K hK => ?_)
  have ho5 : Own w5.drew 0 71 kFun O (.slice T S.funs.length tc) S.funs := by have := HA6.out.funs; rwa [HT.out] at this
  have hx5 : kFun.rep w5.drew (PlusV O (.slice T S.funs.length tc)) f [.string f.name, .slice V f.args.length vc, .int .i64 f.result] := kFun_iff.2 ⟨_, rfl, wn, kInts.oneKeep HV5.out (Ext.refl O w5).drew (fun b hb h' => h'.elim id (fun e => HA6.out.mo b (AV.mem _ p (i := 3) (by rw [AV.at3]; exact congrArg some (HT.out ▸ e))))), wr⟩
  have hold5 : ∀ b, O b → b < w5.drew.heap.size := HA6.out.old
  refine step_append1H kFun (by decide) w5.heap.size (by rfl) rfl (.tmp 27) (.tmp 29) 23 rfl 0 71 _ 48 Tryz.underlying23 info_Fun rfl O (.slice T S.funs.length tc) rfl S.funs ho5 rfl f [_, _, _] hx5 hold5 (by omega) (by omega) (Nat.zero_le _) ?_
  intro v2 w2 hO2 hE2 hat2
  obtain ⟨T2, c2, hv, -, -⟩ := hO2.shape
  rw [List.length_append, List.length_singleton] at hv
  subst hv
  have hTb : (Value.slice T S.funs.length tc).ownBlock = A.fv.ownBlock := by rw [HT.out]
  rw [hTb] at hat2
  have HO2 := Lib.hid hO2
  have HE2 : Hid (Ext (fun b => A.fv.ownBlock = some b) w5.drew w2) := Lib.hid (hTb ▸ hE2)
  have HV2 := Lib.hid hat2
  have X3 := HE2.out.cell HA6.out.c3 (fun e => HA6.out.ne (AV.at3 _ p) (Arena.at0 _ p) (by decide) e rfl)
  have F3 := (HE2.out.frozen HA6.out.pl (fun e => HA6.out.ne (AV.at3 _ p) (Arena.at0 _ p) (by decide) e rfl)).trans (HA6.out.fz 3)
  clear hO2 hE2 hat2 hTb ho5 hx5 hold5
  refine hK.out _ _ ?_
  clear hK K; (try simp only [Act.put, List.setIfInBounds_toArray, List.set_cons_zero, List.set_cons_succ])
  refine wpM_free 8 rfl (by kernel_rfl) rfl (by intro w; go_simp; try rfl) ?_; (try simp only [Act.put, List.setIfInBounds_toArray, List.set_cons_zero, List.set_cons_succ])
  refine wpM_free 9 rfl (by kernel_rfl) rfl (by intro w; go_simp; try rfl) ?_; (try simp only [Act.put, List.setIfInBounds_toArray, List.set_cons_zero, List.set_cons_succ])
  refine wpM_last 10 rfl (by kernel_rfl) (by decide) (fun K hK => ?_)
  go_simp
  refine hK.out _ _ ?_
  clear hK K; (try simp only [Act.put, List.setIfInBounds_toArray, List.set_cons_zero, List.set_cons_succ])
  refine wpM_done (by kernel_rfl) ?_
  have ht := Lib.hid (HA6.out.turn_fv HE2.out HV2.out HO2.out)
  have LP := HA6.out.pl
  go_wp2_with fail
  go_ret2
  refine ⟨_, _, ?_, ht.out.1, ((Gr.of HE5.out).trans (Gr.of (Ext.refl NoB w5).drew)).trans (HA6.out.gr_turn (AV.at3 _ p) HA6.out.po ht.out.2 HV2.out)⟩
  rfl
end
end Go.Proofs.YtfpmapbimhdafaaGreatDoor

namespace Go.Proofs.YtfpmapbimhdafaaGreatDoor
open Go.RowKit
set_option linter.unusedVariables false
set_option linter.unusedSimpArgs false

def nBool : ByteArray := ⟨#[66, 111, 111, 108]⟩
def nInt : ByteArray := ⟨#[73, 110, 116]⟩
/-- A new arena's content. -/
def S0 : St := ⟨[⟨nBool, []⟩, ⟨nInt, []⟩], [⟨nBool, []⟩, ⟨nInt, []⟩], [], [], [], []⟩
def SE : St := ⟨[], [], [], [], [], []⟩
/-- Three blocks. -/
def O3 (a c e : Nat) : Nat → Prop := fun b => b = a ∨ b = c ∨ b = e
theorem Own.anyAny {w : World} {base : Nat} {e : TypeId} {O O' : Nat → Prop} {v : Value} {xs : List Value} (h : Own w base e kAny O v xs) : Own w base e kAny O' v xs := by
  obtain ⟨css, h1, h2⟩ := h
  exact ⟨css, h1, h2.mono fun _ _ h => h⟩

theorem new_arena {w w1 : World} {g : Nat} (hg : w.heap.size + 1 = g) (hm : MapHas Value.string w1 w.heap.size [])
    (ho : Own w1 0 28 kAny NoB (.slice (some ⟨g, 0, none⟩) 16 16) (List.replicate 16 (.slice none 0 0))) :
    Arena (w1.alloc (.cells #[.int .i64 1048576, .slice none 0 0, .map (some w.heap.size), .slice none 0 0, .slice none 0 0, .slice none 0 0, .slice none 0 0, .slice (some ⟨g, 0, none⟩) 16 16] 106)) (O3 w.heap.size g w1.heap.size) w1.heap.size
      ⟨.slice none 0 0, w.heap.size, .slice none 0 0, .slice none 0 0, .slice none 0 0, .slice none 0 0, .slice (some ⟨g, 0, none⟩) 16 16, List.replicate 16 (.slice none 0 0, [])⟩ SE := by
  have hE2 : Ext NoB w1 (w1.alloc (.cells #[.int .i64 1048576, .slice none 0 0, .map (some w.heap.size), .slice none 0 0, .slice none 0 0, .slice none 0 0, .slice none 0 0, .slice (some ⟨g, 0, none⟩) 16 16] 106)) := (Ext.refl _ _).alloc _
  have h1 := hm.lt
  have h2 := (ho.base (g := g) rfl).2
  subst hg
  refine ⟨?_, ?_, ?_, by go_simp, by go_simp, by go_simp, by go_simp, by go_simp, by go_simp, by go_simp, by go_simp, fun j => by go_simp, ?_, Own.nil _ _ _ _, Own.nil _ _ _ _, Own.nil _ _ _ _, Own.nil _ _ _ _, Own.nil _ _ _ _, ?_, ?_, ?_⟩
  · rintro b (rfl | rfl | rfl) <;> simp <;> omega
  · intro b hb
    simp only [AV.mo, AV.own, Value.ownBlock, List.mem_cons, List.map_replicate, List.mem_replicate, Option.some.injEq, reduceCtorEq, false_or, and_false, or_false] at hb
    rcases hb with rfl | rfl | rfl
    · exact .inr (.inr rfl)
    · exact .inl rfl
    · exact .inr (.inl rfl)
  · have : ∀ n, List.Pairwise (fun a b : Option Nat => a = none ∨ a ≠ b) (List.replicate n none) := fun n => List.pairwise_replicate.2 (.inr (.inl rfl))
    have hown : (⟨.slice none 0 0, w.heap.size, .slice none 0 0, .slice none 0 0, .slice none 0 0, .slice none 0 0, .slice (some ⟨w.heap.size + 1, 0, none⟩) 16 16, List.replicate 16 (.slice none 0 0, [])⟩ : AV).own w1.heap.size = some w1.heap.size :: some w.heap.size :: none :: none :: none :: none :: none :: some (w.heap.size + 1) :: List.replicate 16 none := rfl
    rw [hown]
    have hmem : ∀ a, a ∈ List.replicate 16 (none : Option Nat) → a = none := fun a ha => (List.mem_replicate.1 ha).2
    refine List.pairwise_cons.2 ⟨?_, List.pairwise_cons.2 ⟨?_, List.pairwise_cons.2 ⟨fun _ _ => .inl rfl, List.pairwise_cons.2 ⟨fun _ _ => .inl rfl, List.pairwise_cons.2 ⟨fun _ _ => .inl rfl, List.pairwise_cons.2 ⟨fun _ _ => .inl rfl, List.pairwise_cons.2 ⟨fun _ _ => .inl rfl, List.pairwise_cons.2 ⟨?_, this 16⟩⟩⟩⟩⟩⟩⟩⟩
    all_goals
      intro a ha
      refine .inr (fun e => ?_)
      subst e
      simp only [List.mem_cons, List.mem_replicate, Option.some.injEq, reduceCtorEq, false_or, and_false, or_false] at ha
      try omega
  · exact hm.ext hE2 (fun h => h)
  · have := (ho.ext hE2).anyAny (O' := O3 w.heap.size (w.heap.size + 1) w1.heap.size)
    simpa using this
  · intro b hb
    rw [(List.mem_replicate.1 hb).2]
    exact ⟨Own.nil _ _ _ _, (fun x (hx : x ∈ ([] : List Int)) => by cases hx), Nat.zero_le _⟩
  · simp

theorem info_Arena : (Tryz.prog.info? 106).map (fun i => (i.zero, i.size)) = some (some (.agg #[.int .i64 0, .slice none 0 0, .map none, .slice none 0 0, .slice none 0 0, .slice none 0 0, .slice none 0 0, .slice none 0 0]), 8) := by kernel_rfl
set_option maxRecDepth 100000 in
set_option maxHeartbeats 1000000 in
theorem c_New (w : World) :
    Calls Tryz.prog 47 #[.int .i64 1048576] w fun e w' => ∃ p A O, e = .returned (ptr p) ∧ Arena w' O p A S0 ∧ Gr NoB w O w' := by
  have hmm := @run_makeMap Tryz.prog
  go_enter Tryz.func47, Tryz.ntmps47
  go_wp2_with (at_make; refine wpl_makeN kAny rfl (.const (.int .i64 16)) (.const (.int .i64 16)) 98 rfl 0 28 _ 24 Tryz.underlying98 info_ints rfl NoB .i64 .i64 16 16 16 rfl rfl (by omega) (by omega) (by omega) (by omega) (Nat.zero_le _) (.slice none 0 0) (fun _ _ => ⟨rfl, rfl⟩) ?_; intro v9 w9 hv9 hO9 hE9; subst hv9; (have HO9 := Lib.hid hO9); (have HE9 := Lib.hid hE9); clear hO9 hE9)
  rw [show min (max (1048576 : Int) 0) 1048576 = 1048576 by decide]
  have HO9' : Hid (Own w9 0 28 kAny NoB (.slice (some ⟨w.heap.size + 1, 0, none⟩) 16 16) (List.replicate 16 (.slice none 0 0))) := Lib.hid (by have := HO9.out; simpa using this)
  have hA0 := new_arena rfl ((MapHas.new Value.string w).ext HE9.out (fun h => h)) HO9'.out
  have hG0 : Gr NoB w (O3 w.heap.size (w.heap.size + 1) w9.heap.size) (w9.alloc (.cells #[.int .i64 1048576, .slice none 0 0, .map (some w.heap.size), .slice none 0 0, .slice none 0 0, .slice none 0 0, .slice none 0 0, .slice (some ⟨w.heap.size + 1, 0, none⟩) 16 16] 106)) := by
    have h9 : w.heap.size + 1 < w9.heap.size := (HO9'.out.base (g := w.heap.size + 1) rfl).2
    refine ⟨((Ext.refl NoB w).alloc _ |>.trans HE9.out).alloc _, ?_⟩
    rintro b hb (rfl | rfl | rfl) <;> omega
  have HA0 := Lib.hid hA0
  have HG0 := Lib.hid hG0
  clear hA0 hG0 hmm
  refine (c_Sort_new HA0.out ⟨rfl, by simp [SE], fun s hs => by cases hs⟩ nBool (.slice none 0 0) [] Kd.nil_mk (fun k hk => by cases hk) (by simp) (by decide) (fun x hx => by cases hx)).mono ?_
  rintro e w2 ⟨A2, O2, rfl, hA2, hG2⟩
  have HA2 := Lib.hid hA2
  have HG2 := Lib.hid (HG0.out.trans hG2)
  clear hA2 hG2
  go_wp2_with fail
  refine (c_Sort_new HA2.out ⟨rfl, by simp [SE], fun s hs => by
    rw [List.mem_singleton.1 hs]
    exact fun k hk => by cases hk⟩ nInt (.slice none 0 0) [] Kd.nil_mk (fun k hk => by cases hk) (by simp) (by decide) (fun x hx => by
    rw [List.mem_singleton.1 hx]
    exact fun h => absurd h.1 (by decide))).mono ?_
  rintro e w3 ⟨A3, O3, rfl, hA3, hG3⟩
  have HA3 := Lib.hid hA3
  have HG3 := Lib.hid (HG2.out.trans hG3)
  clear hA3 hG3
  go_wp2_with fail
  go_ret
  exact ⟨_, _, _, rfl, HA3.out, HG3.out⟩
end Go.Proofs.YtfpmapbimhdafaaGreatDoor

namespace Go.Proofs.YtfpmapbimhdafaaGreatDoor
open Go.RowKit
set_option linter.unusedVariables false
set_option linter.unusedSimpArgs false

/-- Of the first k terms their sorts; whether they are constant. -/
def ofsTo (funs : List Fun) (terms : List Term) : Nat → List Int
  | 0 => []
  | k + 1 => ofsTo funs terms k ++ (match terms[k]? with | some t => [resultT funs (ofsTo funs terms k) t] | none => [])
def constsTo (terms : List Term) : Nat → List Bool
  | 0 => []
  | k + 1 => constsTo terms k ++ (match terms[k]? with | some t => [constT (constsTo terms k) t] | none => [])
theorem ofsTo_succ {funs : List Fun} {terms : List Term} {k : Nat} {t : Term} (h : terms[k]? = some t) : ofsTo funs terms (k + 1) = ofsTo funs terms k ++ [resultT funs (ofsTo funs terms k) t] := by rw [ofsTo, h]
theorem constsTo_succ {terms : List Term} {k : Nat} {t : Term} (h : terms[k]? = some t) : constsTo terms (k + 1) = constsTo terms k ++ [constT (constsTo terms k) t] := by rw [constsTo, h]
theorem ofsTo_len {funs : List Fun} {terms : List Term} : ∀ {k : Nat}, k ≤ terms.length → (ofsTo funs terms k).length = k
  | 0, _ => rfl
  | k + 1, h => by
    obtain ⟨t, ht⟩ := at_some (show k < terms.length by omega)
    rw [ofsTo_succ ht, List.length_append, ofsTo_len (by omega)]
    rfl
theorem constsTo_len {terms : List Term} : ∀ {k : Nat}, k ≤ terms.length → (constsTo terms k).length = k
  | 0, _ => rfl
  | k + 1, h => by
    obtain ⟨t, ht⟩ := at_some (show k < terms.length by omega)
    rw [constsTo_succ ht, List.length_append, constsTo_len (by omega)]
    rfl

/-- Bounds on a dump. -/
structure Small (d : Dump) : Prop where
  ns : d.sorts.length ≤ 20
  nf : d.funs.length ≤ 40
  nt : d.terms.length ≤ 80
  nc : d.cmds.length ≤ 60
  so : ∀ s ∈ d.sorts, s.args.length ≤ 10 ∧ s.name.size ≤ 60
  fu : ∀ f ∈ d.funs, f.args.length ≤ 10 ∧ f.name.size ≤ 60
  te : ∀ t ∈ d.terms, t.kids.length ≤ 12 ∧ t.num.size ≤ 60
  co : ∀ c ∈ d.cmds, c.name.size ≤ 60
/-- What is wrong with no command, at a level. -/
def CmdOk (d : Dump) (ofs : List Int) (level : Int) (c : Cmd) : Prop :=
  1 ≤ c.kind ∧ c.kind ≤ 9 ∧ (c.kind = 2 → 0 ≤ c.n ∧ c.n ≤ 8) ∧ (c.kind = 3 → 0 ≤ c.fn ∧ c.fn < d.funs.length) ∧ (c.kind = 4 → 0 ≤ c.term ∧ c.term < d.terms.length ∧ rdI ofs c.term.toNat = 0) ∧ (c.kind = 7 → 0 ≤ c.n ∧ c.n ≤ 1000 - level) ∧ (c.kind = 8 → 0 ≤ c.n ∧ c.n ≤ level)
def levelTo (cmds : List Cmd) : Nat → Int
  | 0 => 0
  | k + 1 => match cmds[k]? with
    | some c => if c.kind = 7 then levelTo cmds k + c.n else if c.kind = 8 then levelTo cmds k - c.n else levelTo cmds k
    | none => levelTo cmds k
/-- It may be all of a script. -/
structure LoadOk (d : Dump) : Prop where
  two : 2 ≤ d.sorts.length
  bool : d.sorts[0]? = some ⟨nBool, []⟩
  int : d.sorts[1]? = some ⟨nInt, []⟩
  sorts : ∀ (i : Nat) (s : Srt), 2 ≤ i → d.sorts[i]? = some s → ArgsOk i s.args ∧ ∀ (k : Nat) (x : Srt), k < i → d.sorts[k]? = some x → ¬ (x.name = s.name ∧ x.args = s.args)
  funs : ∀ f ∈ d.funs, ArgsOk d.sorts.length f.args ∧ 0 ≤ f.result ∧ f.result < d.sorts.length
  terms : ∀ (k : Nat) (t : Term), d.terms[k]? = some t → TermOk d.funs k (ofsTo d.funs d.terms k) (constsTo d.terms k) t ∧ ∀ (j : Nat) (x : Term), j < k → d.terms[j]? = some x → x ≠ t
  cmds : ∀ (k : Nat) (c : Cmd), d.cmds[k]? = some c → CmdOk d (ofsTo d.funs d.terms d.terms.length) (levelTo d.cmds k) c
theorem level_pos {d : Dump} (h : LoadOk d) : ∀ k, k ≤ d.cmds.length → 0 ≤ levelTo d.cmds k ∧ levelTo d.cmds k ≤ 1000
  | 0, _ => by simp [levelTo]
  | k + 1, hk => by
    obtain ⟨c, hc⟩ := at_some (show k < d.cmds.length by omega)
    have ih := level_pos h k (by omega)
    obtain ⟨_, _, _, _, _, h7, h8⟩ := h.cmds k c hc
    rw [levelTo, hc]
    show 0 ≤ (if c.kind = 7 then _ else _) ∧ (if c.kind = 7 then _ else _) ≤ _
    split
    · have := h7 ‹_›; omega
    · split
      · have := h8 ‹_›; omega
      · exact ih
theorem LoadOk.args {d : Dump} (h : LoadOk d) (hs : Small d) {s : Srt} (hm : s ∈ d.sorts) : ArgsOk 100 s.args := by
  obtain ⟨i, hi⟩ := List.getElem?_of_mem hm
  have hl := (List.getElem?_eq_some_iff.1 hi).1
  have := hs.ns
  rcases i with _ | _ | i
  · rw [h.bool] at hi
    obtain rfl := Option.some.inj hi
    exact fun k hk => by cases hk
  · rw [h.int] at hi
    obtain rfl := Option.some.inj hi
    exact fun k hk => by cases hk
  · intro k hk
    have := (h.sorts _ s (by omega) hi).1 k hk
    omega

/-! An arena's content while a dump is laid. -/
def StS (d : Dump) (k : Nat) : St := ⟨d.sorts.take (max k 2), d.sorts.take (max k 2), [], [], [], []⟩
def StF (d : Dump) (k : Nat) : St := ⟨d.sorts, d.sorts, d.funs.take k, [], [], []⟩
def StT (d : Dump) (k : Nat) : St := ⟨d.sorts, d.sorts, d.funs, d.terms.take k, ofsTo d.funs d.terms k, constsTo d.terms k⟩
def StOf (d : Dump) : St := ⟨d.sorts, d.sorts, d.funs, d.terms, ofsTo d.funs d.terms d.terms.length, constsTo d.terms d.terms.length⟩
theorem take_two {d : Dump} (h : LoadOk d) : d.sorts.take 2 = [⟨nBool, []⟩, ⟨nInt, []⟩] := by
  obtain ⟨a, b, l, e⟩ : ∃ a b l, d.sorts = a :: b :: l := by
    have := h.two
    match e : d.sorts with
    | [] => simp [e] at this
    | [a] => simp [e] at this
    | a :: b :: l => exact ⟨a, b, l, rfl⟩
  have h0 := h.bool
  have h1 := h.int
  rw [e] at h0 h1 ⊢
  simp at h0 h1
  subst h0 h1
  rfl
theorem StS_zero {d : Dump} (h : LoadOk d) : StS d 0 = S0 := by
  have := take_two h
  simp [StS, S0, this]
theorem StS_all {d : Dump} (h : LoadOk d) : StS d d.sorts.length = StF d 0 := by
  have := h.two
  simp [StS, StF, Nat.max_eq_left this]
theorem StF_all (d : Dump) : StF d d.funs.length = StT d 0 := by simp [StF, StT, ofsTo, constsTo]
theorem StT_all (d : Dump) : StT d d.terms.length = StOf d := by simp [StT, StOf]
theorem take_snoc' {α : Type} {l : List α} {k : Nat} {x : α} (h : l[k]? = some x) : l.take (k + 1) = l.take k ++ [x] := by rw [List.take_add_one, h]; rfl

theorem StS_ok {d : Dump} (h : LoadOk d) (hs : Small d) (k : Nat) : SortsOk (StS d k) := ⟨rfl, by
    have := hs.ns
    simp only [StS, List.length_take]
    omega, fun s hm => h.args hs (List.mem_of_mem_take hm)⟩
theorem StS_len {d : Dump} {k : Nat} (h2 : 2 ≤ k) (hk : k ≤ d.sorts.length) : (StS d k).sorts.length = k := by
  simp only [StS, List.length_take]
  omega
theorem StS_succ {d : Dump} {k : Nat} {s : Srt} (h2 : 2 ≤ k) (hk : d.sorts[k]? = some s) : ({ StS d k with keyed := (StS d k).sorts ++ [⟨s.name, s.args⟩], sorts := (StS d k).sorts ++ [⟨s.name, s.args⟩] } : St) = StS d (k + 1) := by
  simp only [StS, Nat.max_eq_left h2, Nat.max_eq_left (Nat.le_succ_of_le h2), take_snoc' hk]
theorem StS_old {d : Dump} {k : Nat} (h2 : k < 2) : StS d (k + 1) = StS d k := by
  simp only [StS, Nat.max_eq_right (Nat.le_of_lt h2), Nat.max_eq_right (Nat.succ_le_of_lt h2)]
theorem old_srt {d : Dump} (h : LoadOk d) {k : Nat} {s : Srt} (h2 : k < 2) (hk : d.sorts[k]? = some s) : s.args = [] ∧ (StS d k).sorts[k]? = some s ∧ ∀ j x, j < k → (StS d k).sorts[j]? = some x → ¬ (x.name = s.name ∧ x.args = s.args) := by
  have ht : (StS d k).sorts = [⟨nBool, []⟩, ⟨nInt, []⟩] := by
    have := take_two h
    simp only [StS, Nat.max_eq_right (Nat.le_of_lt h2), this]
  rcases k with _ | _ | k
  · rw [h.bool] at hk
    obtain rfl := Option.some.inj hk
    exact ⟨rfl, by rw [ht]; rfl, fun j x hj => by omega⟩
  · rw [h.int] at hk
    obtain rfl := Option.some.inj hk
    refine ⟨rfl, by rw [ht]; rfl, fun j x hj hx => ?_⟩
    obtain rfl : j = 0 := by omega
    rw [ht] at hx
    obtain rfl := Option.some.inj hx
    exact fun h => absurd h.1 (by decide)
  · omega
theorem new_srt {d : Dump} (h : LoadOk d) {k : Nat} {s : Srt} (h2 : 2 ≤ k) (hk : d.sorts[k]? = some s) : ArgsOk (StS d k).sorts.length s.args ∧ ∀ x ∈ (StS d k).sorts, ¬ (x.name = s.name ∧ x.args = s.args) := by
  have hl := (List.getElem?_eq_some_iff.1 hk).1
  obtain ⟨h3, h4⟩ := h.sorts k s h2 hk
  rw [StS_len h2 (by omega)]
  refine ⟨h3, fun x hx => ?_⟩
  obtain ⟨j, hj⟩ := List.getElem?_of_mem hx
  have hjl := (List.getElem?_eq_some_iff.1 hj).1
  rw [StS_len h2 (by omega)] at hjl
  refine h4 j x hjl ?_
  simp only [StS, Nat.max_eq_left h2] at hj
  rwa [List.getElem?_take_of_lt hjl] at hj
theorem StF_len {d : Dump} {k : Nat} (hk : k ≤ d.funs.length) : (StF d k).funs.length = k := by
  simp only [StF, List.length_take]
  omega
theorem StF_succ {d : Dump} {k : Nat} {f : Fun} (hk : d.funs[k]? = some f) : ({ StF d k with funs := (StF d k).funs ++ [f] } : St) = StF d (k + 1) := by
  simp only [StF, take_snoc' hk]
theorem StT_len {d : Dump} {k : Nat} (hk : k ≤ d.terms.length) : (StT d k).terms.length = k := by
  simp only [StT, List.length_take]
  omega
theorem StT_succ {d : Dump} {k : Nat} {t : Term} (hk : d.terms[k]? = some t) : ({ StT d k with terms := (StT d k).terms ++ [t], ofs := (StT d k).ofs ++ [resultT (StT d k).funs (StT d k).ofs t], consts := (StT d k).consts ++ [constT (StT d k).consts t] } : St) = StT d (k + 1) := by
  simp only [StT, take_snoc' hk, ofsTo_succ hk, constsTo_succ hk]
theorem new_term {d : Dump} (h : LoadOk d) {k : Nat} {t : Term} (hk : d.terms[k]? = some t) : TermOk (StT d k).funs (StT d k).terms.length (StT d k).ofs (StT d k).consts t ∧ (StT d k).ofs.length = (StT d k).terms.length ∧ (StT d k).consts.length = (StT d k).terms.length ∧ ∀ x ∈ (StT d k).terms, x ≠ t := by
  have hl := (List.getElem?_eq_some_iff.1 hk).1
  obtain ⟨h3, h4⟩ := h.terms k t hk
  rw [StT_len (by omega)]
  refine ⟨h3, ofsTo_len (by omega), constsTo_len (by omega), fun x hx => ?_⟩
  obtain ⟨j, hj⟩ := List.getElem?_of_mem hx
  have hjl := (List.getElem?_eq_some_iff.1 hj).1
  rw [StT_len (by omega)] at hjl
  refine h4 j x hjl ?_
  simp only [StT] at hj
  rwa [List.getElem?_take_of_lt hjl] at hj
/-! A dump's rows at a place. -/
theorem row_srt {w : World} {O : Nat → Prop} {b off : Nat} {xs : List Srt} (h : kSrt.row w O b off xs) {i : Nat} {x : Srt} (hx : xs[i]? = some x) :
    ∃ A c, (w.cell? ⟨b, off + i * 2, none⟩ = some (.string x.name) ∧ w.cell? ⟨b, off + i * 2 + 1, none⟩ = some (.slice A x.args.length c)) ∧ kInts.one w O x.args (.slice A x.args.length c) ∧ x.name.size ≤ maxLen := by
  obtain ⟨cs, hrep, hc⟩ := h i x hx
  obtain ⟨v, rfl, hn, h1⟩ := kSrt_iff.1 hrep
  have h2 := h1
  obtain ⟨A, c, rfl, _⟩ := Kd.one_slice h2
  exact ⟨A, c, ⟨hc 0 _ rfl, hc 1 _ rfl⟩, h1, hn⟩
theorem row_fun {w : World} {O : Nat → Prop} {b off : Nat} {xs : List Fun} (h : kFun.row w O b off xs) {i : Nat} {x : Fun} (hx : xs[i]? = some x) :
    ∃ A c, (w.cell? ⟨b, off + i * 3, none⟩ = some (.string x.name) ∧ w.cell? ⟨b, off + i * 3 + 1, none⟩ = some (.slice A x.args.length c) ∧ w.cell? ⟨b, off + i * 3 + 2, none⟩ = some (.int .i64 x.result)) ∧ kInts.one w O x.args (.slice A x.args.length c) ∧ x.name.size ≤ maxLen ∧ (Lit.int .i64 x.result).wf = true := by
  obtain ⟨cs, hrep, hc⟩ := h i x hx
  obtain ⟨v, rfl, hn, h1, hw⟩ := kFun_iff.1 hrep
  have h2 := h1
  obtain ⟨A, c, rfl, _⟩ := Kd.one_slice h2
  exact ⟨A, c, ⟨hc 0 _ rfl, hc 1 _ rfl, hc 2 _ rfl⟩, h1, hn, hw⟩
theorem row_term {w : World} {O : Nat → Prop} {b off : Nat} {xs : List Term} (h : kTerm.row w O b off xs) {i : Nat} {x : Term} (hx : xs[i]? = some x) :
    ∃ A c, (w.cell? ⟨b, off + i * 4, none⟩ = some (.int .i64 x.op) ∧ w.cell? ⟨b, off + i * 4 + 1, none⟩ = some (.int .i64 x.fn) ∧ w.cell? ⟨b, off + i * 4 + 2, none⟩ = some (.slice A x.kids.length c) ∧ w.cell? ⟨b, off + i * 4 + 3, none⟩ = some (.string x.num)) ∧ kInts.one w O x.kids (.slice A x.kids.length c) ∧ (Lit.int .i64 x.op).wf = true ∧ (Lit.int .i64 x.fn).wf = true ∧ x.num.size ≤ maxLen := by
  obtain ⟨cs, hrep, hc⟩ := h i x hx
  obtain ⟨v, rfl, w0, w1, h1, hw⟩ := kTerm_iff.1 hrep
  have h2 := h1
  obtain ⟨A, c, rfl, _⟩ := Kd.one_slice h2
  exact ⟨A, c, ⟨hc 0 _ rfl, hc 1 _ rfl, hc 2 _ rfl, hc 3 _ rfl⟩, h1, w0, w1, hw⟩
theorem row_cmd {w : World} {O : Nat → Prop} {b off : Nat} {xs : List Cmd} (h : kCmd.row w O b off xs) {i : Nat} {x : Cmd} (hx : xs[i]? = some x) :
    (w.cell? ⟨b, off + i * 5, none⟩ = some (.int .i64 x.kind) ∧ w.cell? ⟨b, off + i * 5 + 1, none⟩ = some (.int .i64 x.n) ∧ w.cell? ⟨b, off + i * 5 + 2, none⟩ = some (.string x.name) ∧ w.cell? ⟨b, off + i * 5 + 3, none⟩ = some (.int .i64 x.fn) ∧ w.cell? ⟨b, off + i * 5 + 4, none⟩ = some (.int .i64 x.term)) ∧ (Lit.int .i64 x.kind).wf = true ∧ (Lit.int .i64 x.n).wf = true ∧ x.name.size ≤ maxLen ∧ (Lit.int .i64 x.fn).wf = true ∧ (Lit.int .i64 x.term).wf = true := by
  obtain ⟨cs, hrep, hc⟩ := h i x hx
  obtain ⟨rfl, h1⟩ := kCmd_iff.1 hrep
  exact ⟨⟨hc 0 _ rfl, hc 1 _ rfl, hc 2 _ rfl, hc 3 _ rfl, hc 4 _ rfl⟩, h1⟩
theorem dump_open {w : World} {O : Nat → Prop} {d : Dump} {v : Value} (h : kDump.agg w O d v) : ∃ v1 v2 v3 v4, v = .agg #[v1, v2, v3, v4] ∧ kSrts.one w O d.sorts v1 ∧ kFuns.one w O d.funs v2 ∧ kTerms.one w O d.terms v3 ∧ kCmds.one w O d.cmds v4 := by
  obtain ⟨cs, rfl, h⟩ := h
  obtain ⟨v1, v2, v3, v4, rfl, h1, h2, h3, h4⟩ := kDump_iff.1 h
  exact ⟨v1, v2, v3, v4, rfl, h1, h2, h3, h4⟩
end Go.Proofs.YtfpmapbimhdafaaGreatDoor

namespace Go.Proofs.YtfpmapbimhdafaaGreatDoor
open Go.RowKit
set_option linter.unusedVariables false
set_option linter.unusedSimpArgs false

/-- Four cells at a block. -/
def Bq (g : Nat) (v0 v1 v2 v3 : Value) (W : World) : Prop := W.cell? ⟨g, 0, none⟩ = some v0 ∧ W.cell? ⟨g, 1, none⟩ = some v1 ∧ W.cell? ⟨g, 2, none⟩ = some v2 ∧ W.cell? ⟨g, 3, none⟩ = some v3
theorem Bq.ext {g : Nat} {v0 v1 v2 v3 : Value} {O : Nat → Prop} {W W' : World} (h : Bq g v0 v1 v2 v3 W) (he : Ext O W W') (hn : ¬ O g) : Bq g v0 v1 v2 v3 W' := ⟨he.cell h.1 hn, he.cell h.2.1 hn, he.cell h.2.2.1 hn, he.cell h.2.2.2 hn⟩

section
variable {w : World} {O : Nat → Prop} {p : Nat} {A : AV} {S : St}
set_option maxRecDepth 100000 in
set_option maxHeartbeats 4000000 in
theorem c_laid (h : Arena w O p A S0) (d : Dump) (vd : Value) (hd : kDump.agg w O d vd) (hs : Small d) (hl : LoadOk d) :
    Calls Tryz.prog 48 #[ptr p, vd] w fun e w' => ∃ A' O', e = .returned (.bool true) ∧ Arena w' O' p A' (StOf d) ∧ Gr O w O' w' := by
  obtain ⟨v1, v2, v3, v4, rfl, d1, d2, d3, d4⟩ := dump_open hd
  have D1 := Lib.hid d1
  have D2 := Lib.hid d2
  have D3 := Lib.hid d3
  obtain ⟨A1, n1, hv1, hc1, hm1, _⟩ := Kd.one_slice d1
  obtain ⟨A2, n2, hv2, hc2, hm2, _⟩ := Kd.one_slice d2
  obtain ⟨A3, n3, hv3, hc3, hm3, _⟩ := Kd.one_slice d3
  subst hv1
  subst hv2
  subst hv3
  have hns := hs.ns
  have hnf := hs.nf
  have hnt := hs.nt
  have htwo := hl.two
  have HL := Lib.hid hl
  have HS := Lib.hid hs
  have H0 := Lib.hid h
  have hng : ¬ O w.heap.size := fun e => absurd (h.old _ e) (Nat.lt_irrefl _)
  clear hd d1 d2 d3 d4 h hs hl hm1 hm2 hm3
  unfold ptr
  have htest : decide ((d.sorts.length : Int) ≤ 1) = false := by rw [decide_eq_false_iff_not]; omega
  go_enter Tryz.func48, Tryz.ntmps48
  go_wp2_with fail
  clear htest
  have hE0 : Ext NoB w (w.alloc (.cells #[.slice A1 d.sorts.length n1, .slice A2 d.funs.length n2, .slice A3 d.terms.length n3, v4] 27)) := (Ext.refl _ _).alloc _
  have HB0 : Hid (Bq w.heap.size (.slice A1 d.sorts.length n1) (.slice A2 d.funs.length n2) (.slice A3 d.terms.length n3) v4 (w.alloc (.cells #[.slice A1 d.sorts.length n1, .slice A2 d.funs.length n2, .slice A3 d.terms.length n3, v4] 27))) := Lib.hid ⟨by go_simp, by go_simp, by go_simp, by go_simp⟩
  have HE0 := Lib.hid hE0
  have HZ0 : Hid (w.heap.size < (w.alloc (.cells #[.slice A1 d.sorts.length n1, .slice A2 d.funs.length n2, .slice A3 d.terms.length n3, v4] 27)).heap.size) := Lib.hid (by simp)
  have HA0 := Lib.hid (H0.out.ext hE0)
  have HG0 := Lib.hid (Gr.of (O := O) hE0)
  clear hE0 H0
  generalize w.alloc (.cells #[.slice A1 d.sorts.length n1, .slice A2 d.funs.length n2, .slice A3 d.terms.length n3, v4] 27) = w0 at *
  go_loopw [24] (fun i wr => ∃ k : Nat, k ≤ d.sorts.length ∧ i = .int .i64 k ∧ ∃ A' O', Hid (Arena wr O' p A' (StS d k) ∧ Gr O w0 O' wr ∧ Bq w.heap.size (.slice A1 d.sorts.length n1) (.slice A2 d.funs.length n2) (.slice A3 d.terms.length n3) v4 wr)) (fun i _ => d.sorts.length - (intOf i).toNat)
  case atStart => exact ⟨0, by omega, rfl, A, O, Lib.hid ⟨by rw [StS_zero HL.out]; exact HA0.out, Gr.of (Ext.refl _ _), HB0.out⟩⟩
  case round =>
    obtain ⟨k, hk, rfl, Ak, Ok, HR⟩ := hrel
    obtain ⟨b0, b1, b2, b3⟩ := HR.out.2.2
    have HDk := Lib.hid (kSrts.oneKeep D1.out (HG0.out.trans HR.out.2.1).1 (HG0.out.trans HR.out.2.1).2)
    by_cases hlt : k < d.sorts.length
    · obtain ⟨_, _, hv, _, _, hr⟩ := Kd.one_slice HDk.out
      injection hv with hv1 hv2 hv3
      subst hv1
      clear hv2 hv3
      obtain ⟨sb, so, hA, hnO, hrow⟩ := hr (ne_nil_of_lt hlt)
      subst hA
      obtain ⟨s, hsk⟩ := at_some hlt
      obtain ⟨As, cs, ⟨x0, x1⟩, hargs, hname⟩ := row_srt hrow hsk
      have HAR := Lib.hid hargs
      have HSK := Lib.hid hsk
      have hsm := HS.out.so s (List.mem_of_getElem? hsk)
      obtain ⟨hsm1, hsm2⟩ := hsm
      clear hrow hargs hr hsk
      have lx := cell_lt x0
      have hE1 : Ext NoB wr (wr.alloc (.cells #[.string s.name, .slice As s.args.length cs] 74)) := (Ext.refl _ _).alloc _
      have HE1 := Lib.hid hE1
      have HA1 := Lib.hid (HR.out.1.ext hE1)
      have HV1 := Lib.hid (kInts.oneExt HAR.out hE1.no)
      clear hE1
      go_wp2_with fail
      by_cases h2 : k < 2
      · obtain ⟨o1, o2, o3⟩ := old_srt HL.out h2 HSK.out
        refine (c_Sort_old HA1.out (StS_ok HL.out HS.out k) s.name _ s.args _ HV1.out (by rw [o1]; exact fun k hk => by cases hk) (by omega) (by omega) k s o2 ⟨rfl, rfl⟩ o3).mono ?_
        rintro e w2 ⟨rfl, he⟩
        have HE2 := Lib.hid (HE1.out.trans he)
        clear he o1 o2 o3
        have H2 := Lib.hid h2
        clear h2
        go_wp2_with fail
        exact ⟨⟨k + 1, by omega, by go_num, Ak, Ok, Lib.hid ⟨by rw [StS_old H2.out]; exact HR.out.1.ext HE2.out, HR.out.2.1.ext HE2.out, HR.out.2.2.ext HE2.out (fun h => h)⟩⟩, by simp [intOf]; omega⟩
      · have h2' : 2 ≤ k := by omega
        obtain ⟨o1, o2⟩ := new_srt HL.out h2' HSK.out
        refine (c_Sort_new HA1.out (StS_ok HL.out HS.out k) s.name _ s.args HV1.out o1 (by omega) (by omega) o2).mono ?_
        rintro e w2 ⟨A', O', rfl, hA', hG'⟩
        rw [StS_succ h2' HSK.out] at hA'
        rw [StS_len h2' (by omega)]
        have HA' := Lib.hid hA'
        have HG' := Lib.hid ((Gr.of (O := Ok) HE1.out).trans hG')
        clear hA' hG' o1 o2 h2 h2'
        go_wp2_with fail
        exact ⟨⟨k + 1, by omega, by go_num, A', O', Lib.hid ⟨HA'.out, HR.out.2.1.trans HG'.out, HR.out.2.2.ext HG'.out.1 (fun h => hng (HR.out.2.1.2 _ HZ0.out h))⟩⟩, by simp [intOf]; omega⟩
    · obtain rfl : k = d.sorts.length := by omega
      clear hlt HDk
      have HRA := Lib.hid (HR.out.1)
      rw [StS_all HL.out] at HRA
      have HRG := Lib.hid HR.out.2
      clear HR
      go_wp2_with fail
      go_loopw [49] (fun i wr => ∃ k : Nat, k ≤ d.funs.length ∧ i = .int .i64 k ∧ ∃ A' O', Hid (Arena wr O' p A' (StF d k) ∧ Gr O w0 O' wr ∧ Bq w.heap.size (.slice A1 d.sorts.length n1) (.slice A2 d.funs.length n2) (.slice A3 d.terms.length n3) v4 wr)) (fun i _ => d.funs.length - (intOf i).toNat)
      case atStart => exact ⟨0, by omega, rfl, Ak, Ok, Lib.hid ⟨HRA.out, HRG.out⟩⟩
      case round =>
        clear b0 b1 b2 b3 HRA HRG
        obtain ⟨k, hk, rfl, Ak, Ok, HR⟩ := hrel
        obtain ⟨b0, b1, b2, b3⟩ := HR.out.2.2
        have HDk := Lib.hid (kFuns.oneKeep D2.out (HG0.out.trans HR.out.2.1).1 (HG0.out.trans HR.out.2.1).2)
        by_cases hlt : k < d.funs.length
        · obtain ⟨_, _, hv, _, _, hr⟩ := Kd.one_slice HDk.out
          injection hv with hv1 hv2 hv3
          subst hv1
          clear hv2 hv3
          obtain ⟨sb, so, hA, hnO, hrow⟩ := hr (ne_nil_of_lt hlt)
          subst hA
          obtain ⟨f, hsk⟩ := at_some hlt
          obtain ⟨As, cs, ⟨x0, x1, x2⟩, hargs, hname, hwr⟩ := row_fun hrow hsk
          have HSK := Lib.hid hsk
          obtain ⟨hsm1, hsm2⟩ := HS.out.fu f (List.mem_of_getElem? hsk)
          obtain ⟨hf1, hf2, hf3⟩ := HL.out.funs f (List.mem_of_getElem? hsk)
          have HF1 := Lib.hid hf1
          have hE1 : Ext NoB wr (wr.alloc (.cells #[.string f.name, .slice As f.args.length cs, .int .i64 f.result] 71)) := (Ext.refl _ _).alloc _
          have HE1 := Lib.hid hE1
          have HA1 := Lib.hid (HR.out.1.ext hE1)
          have HV1 := Lib.hid (fun_mk (f := f) (kInts.oneExt hargs hE1.no) hname hwr)
          clear hrow hargs hr hsk hf1 hE1 hname
          have lx := cell_lt x0
          go_wp2_with fail
          refine (c_Fun HA1.out f _ _ HV1.out HF1.out hf2 hf3 (by omega) (by rw [StF_len (by omega)]; omega)).mono ?_
          rintro e w2 ⟨A', O', rfl, hA', hG'⟩
          rw [StF_succ HSK.out] at hA'
          rw [StF_len (by omega)]
          have HA' := Lib.hid hA'
          have HG' := Lib.hid ((Gr.of (O := Ok) HE1.out).trans hG')
          clear hA' hG'
          go_wp2_with fail
          exact ⟨⟨k + 1, by omega, by go_num, A', O', Lib.hid ⟨HA'.out, HR.out.2.1.trans HG'.out, HR.out.2.2.ext HG'.out.1 (fun h => hng (HR.out.2.1.2 _ HZ0.out h))⟩⟩, by simp [intOf]; omega⟩
        · obtain rfl : k = d.funs.length := by omega
          clear hlt HDk
          have HRA := Lib.hid (HR.out.1)
          rw [StF_all d] at HRA
          have HRG := Lib.hid HR.out.2
          clear HR
          go_wp2_with fail
          go_loopw [71] (fun i wr => ∃ k : Nat, k ≤ d.terms.length ∧ i = .int .i64 k ∧ ∃ A' O', Hid (Arena wr O' p A' (StT d k) ∧ Gr O w0 O' wr ∧ Bq w.heap.size (.slice A1 d.sorts.length n1) (.slice A2 d.funs.length n2) (.slice A3 d.terms.length n3) v4 wr)) (fun i _ => d.terms.length - (intOf i).toNat)
          case atStart => exact ⟨0, by omega, rfl, Ak, Ok, Lib.hid ⟨HRA.out, HRG.out⟩⟩
          case round =>
            clear b0 b1 b2 b3 HRA HRG
            obtain ⟨k, hk, rfl, Ak, Ok, HR⟩ := hrel
            have HDk := Lib.hid (kTerms.oneKeep D3.out (HG0.out.trans HR.out.2.1).1 (HG0.out.trans HR.out.2.1).2)
            by_cases hlt : k < d.terms.length
            · obtain ⟨_, _, hv, _, _, hr⟩ := Kd.one_slice HDk.out
              injection hv with hv1 hv2 hv3
              subst hv1
              clear hv2 hv3
              obtain ⟨sb, so, hA, hnO, hrow⟩ := hr (ne_nil_of_lt hlt)
              subst hA
              obtain ⟨t, hsk⟩ := at_some hlt
              obtain ⟨As, cs, ⟨x0, x1, x2, x3⟩, hargs, hw0, hw1, hname⟩ := row_term hrow hsk
              have HSK := Lib.hid hsk
              obtain ⟨hsm1, hsm2⟩ := HS.out.te t (List.mem_of_getElem? hsk)
              obtain ⟨t1, t2, t3, t4⟩ := new_term HL.out hsk
              have HT1 := Lib.hid t1
              have HT2 := Lib.hid t2
              have HT3 := Lib.hid t3
              have HT4 := Lib.hid t4
              have hE1 : Ext NoB wr (wr.alloc (.cells #[.int .i64 t.op, .int .i64 t.fn, .slice As t.kids.length cs, .string t.num] 63)) := (Ext.refl _ _).alloc _
              have HE1 := Lib.hid hE1
              have HA1 := Lib.hid (HR.out.1.ext hE1)
              have HV1 := Lib.hid (tm_mk (t := t) (kInts.oneExt hargs hE1.no) hw0 hw1 hname)
              clear hrow hargs hr hsk t1 t2 t3 t4 hE1 hname
              have lx := cell_lt x0
              go_wp2_with fail
              refine (c_Term HA1.out t _ _ HV1.out HT1.out HT2.out HT3.out (by rw [StT_len (by omega)]; omega) HT4.out (by omega)).mono ?_
              rintro e w2 ⟨A', O', rfl, hA', hG'⟩
              rw [StT_succ HSK.out] at hA'
              rw [StT_len (by omega)]
              have HA' := Lib.hid hA'
              have HG' := Lib.hid ((Gr.of (O := Ok) HE1.out).trans hG')
              clear hA' hG'
              go_wp2_with fail
              exact ⟨⟨k + 1, by omega, by go_num, A', O', Lib.hid ⟨HA'.out, HR.out.2.1.trans HG'.out, HR.out.2.2.ext HG'.out.1 (fun h => hng (HR.out.2.1.2 _ HZ0.out h))⟩⟩, by simp [intOf]; omega⟩
            · obtain rfl : k = d.terms.length := by omega
              clear hlt HDk
              have HRA := Lib.hid (HR.out.1)
              rw [StT_all d] at HRA
              have HRG := Lib.hid HR.out.2
              clear HR
              go_wp2_with fail
              go_ret
              exact ⟨_, _, rfl, HRA.out, HG0.out.trans HRG.out.1⟩
end
end Go.Proofs.YtfpmapbimhdafaaGreatDoor

namespace Go.Proofs.YtfpmapbimhdafaaGreatDoor
open Go.RowKit
set_option linter.unusedVariables false
set_option linter.unusedSimpArgs false

theorem cmd_open {w : World} {O : Nat → Prop} {c : Cmd} {v : Value} (h : kCmd.agg w O c v) : v = .agg #[.int .i64 c.kind, .int .i64 c.n, .string c.name, .int .i64 c.fn, .int .i64 c.term] ∧ (Lit.int .i64 c.kind).wf = true ∧ (Lit.int .i64 c.n).wf = true ∧ c.name.size ≤ maxLen ∧ (Lit.int .i64 c.fn).wf = true ∧ (Lit.int .i64 c.term).wf = true := by
  obtain ⟨cs, rfl, h⟩ := h
  obtain ⟨rfl, h1⟩ := kCmd_iff.1 h
  exact ⟨rfl, h1⟩
section
variable {w : World} {O : Nat → Prop} {p : Nat} {A : AV} {S : St}
set_option maxRecDepth 100000 in
set_option maxHeartbeats 4000000 in
theorem c_isRight (d : Dump) (h : Arena w O p A (StOf d)) (kind n fn term : Int) (name : ByteArray) (level : Int) (hok : CmdOk d (ofsTo d.funs d.terms d.terms.length) level ⟨kind, n, name, fn, term⟩) :
    Calls Tryz.prog 49 #[ptr p, .int .i64 (d.funs.length : Int), .agg #[.int .i64 kind, .int .i64 n, .string name, .int .i64 fn, .int .i64 term]] w fun e w' => e = .returned (.bool true) ∧ Ext NoB w w' := by
  obtain ⟨h1, h9, k2, k3, k4, k7, k8⟩ := hok
  simp only at h1 h9 k2 k3 k4 k7 k8
  have HA := Lib.hid h
  have hk : kind = 1 ∨ kind = 2 ∨ kind = 3 ∨ kind = 4 ∨ kind = 5 ∨ kind = 6 ∨ kind = 7 ∨ kind = 8 ∨ kind = 9 := by omega
  clear h
  unfold ptr
  rcases hk with rfl | rfl | rfl | rfl | rfl | rfl | rfl | rfl | rfl
  · clear k2 k3 k4 k7 k8
    go_enter Tryz.func49, Tryz.ntmps49
    go_wp2_with fail
    go_ret
    exact ⟨rfl, (Ext.refl _ _).alloc _⟩
  · obtain ⟨n0, n8⟩ := k2 rfl
    clear k2 k3 k4 k7 k8
    have b1 : decide (0 ≤ n) = true := decide_eq_true n0
    have b2 : decide (n ≤ 8) = true := decide_eq_true n8
    go_enter Tryz.func49, Tryz.ntmps49
    go_wp2_with fail
    go_ret
    exact ⟨rfl, (Ext.refl _ _).alloc _⟩
  · obtain ⟨n0, n8⟩ := k3 rfl
    clear k2 k3 k4 k7 k8
    have b1 : decide (0 ≤ fn) = true := decide_eq_true n0
    have b2 : decide (fn < (d.funs.length : Int)) = true := decide_eq_true n8
    go_enter Tryz.func49, Tryz.ntmps49
    go_wp2_with fail
    go_ret
    exact ⟨rfl, (Ext.refl _ _).alloc _⟩
  · obtain ⟨n0, n8, n9⟩ := k4 rfl
    clear k2 k3 k4 k7 k8
    obtain ⟨m, rfl⟩ : ∃ m : Nat, term = (m : Int) := ⟨term.toNat, (Int.toNat_of_nonneg n0).symm⟩
    have hm : m < (StOf d).terms.length := by show m < d.terms.length; omega
    have HN : Hid (rdI (StOf d).ofs m = 0) := Lib.hid n9
    clear n9
    go_enter Tryz.func49, Tryz.ntmps49
    go_wp2_with fail
    refine (c_ArOf (HA.out.ext ((Ext.refl _ _).alloc _)) (ofsTo_len (Nat.le_refl _)) m hm).mono ?_
    rintro e w2 ⟨rfl, he⟩
    rw [HN.out]
    have HE := Lib.hid (((Ext.refl NoB w).alloc _).trans he)
    clear he
    go_wp2_with fail
    go_ret
    exact ⟨rfl, HE.out⟩
  · clear k2 k3 k4 k7 k8
    go_enter Tryz.func49, Tryz.ntmps49
    go_wp2_with fail
    go_ret
    exact ⟨rfl, (Ext.refl _ _).alloc _⟩
  · clear k2 k3 k4 k7 k8
    go_enter Tryz.func49, Tryz.ntmps49
    go_wp2_with fail
    go_ret
    exact ⟨rfl, (Ext.refl _ _).alloc _⟩
  · obtain ⟨n0, _⟩ := k7 rfl
    clear k2 k3 k4 k7 k8
    have b1 : decide (0 ≤ n) = true := decide_eq_true n0
    go_enter Tryz.func49, Tryz.ntmps49
    go_wp2_with fail
    go_ret
    exact ⟨rfl, (Ext.refl _ _).alloc _⟩
  · obtain ⟨n0, _⟩ := k8 rfl
    clear k2 k3 k4 k7 k8
    have b1 : decide (0 ≤ n) = true := decide_eq_true n0
    go_enter Tryz.func49, Tryz.ntmps49
    go_wp2_with fail
    go_ret
    exact ⟨rfl, (Ext.refl _ _).alloc _⟩
  · clear k2 k3 k4 k7 k8
    go_enter Tryz.func49, Tryz.ntmps49
    go_wp2_with fail
    go_ret
    exact ⟨rfl, (Ext.refl _ _).alloc _⟩

/-- A script that was loaded of a dump. -/
def Scr (w : World) (O : Nat → Prop) (s : Nat) (d : Dump) : Prop :=
  ∃ p A v, w.cell? ⟨s, 0, none⟩ = some (ptr p) ∧ w.cell? ⟨s, 1, none⟩ = some v ∧ kCmds.one w O d.cmds v ∧ Arena w O p A (StOf d)
theorem Scr.ext {w w' : World} {O : Nat → Prop} {s : Nat} {d : Dump} (h : Scr w O s d) (he : Ext NoB w w') : Scr w' O s d := by
  obtain ⟨p, A, v, h1, h2, h3, h4⟩ := h
  exact ⟨p, A, v, he.cell h1 id, he.cell h2 id, kCmds.oneExt h3 he.no, h4.ext he⟩
theorem level_lit {cmds : List Cmd} {k : Nat} {c : Cmd} (h : cmds[k]? = some c) : levelTo cmds (k + 1) = if c.kind = 7 then levelTo cmds k + c.n else if c.kind = 8 then levelTo cmds k - c.n else levelTo cmds k := by rw [levelTo, h]

set_option maxRecDepth 100000 in
set_option maxHeartbeats 4000000 in
theorem c_Load (d : Dump) (vd : Value) (hd : kDump.agg w NoB d vd) (hs : Small d) (hl : LoadOk d) :
    Calls Tryz.prog 28 #[vd] w fun e w' => ∃ s O', e = .returned (.tuple #[ptr s, .int .i64 0]) ∧ Scr w' O' s d ∧ Gr NoB w O' w' := by
  have HD := Lib.hid hd
  obtain ⟨v1, v2, v3, v4, rfl, d1, d2, d3, d4⟩ := dump_open hd
  have D4 := Lib.hid d4
  obtain ⟨A2, n2, hv2, hc2, hm2, _⟩ := Kd.one_slice d2
  obtain ⟨A4, n4, hv4, hc4, hm4, _⟩ := Kd.one_slice d4
  subst hv2
  subst hv4
  have HL := Lib.hid hl
  have HS := Lib.hid hs
  have hnc := hs.nc
  clear hd d1 d2 d3 d4 hs hl hm2 hm4
  go_enter Tryz.func28, Tryz.ntmps28
  go_wp2_with fail
  have HE1 : Hid (Ext NoB w (w.alloc (.cells #[v1, .slice A2 d.funs.length n2, v3, .slice A4 d.cmds.length n4] 27))) := Lib.hid ((Ext.refl _ _).alloc _)
  refine (c_New _).mono ?_
  rintro e w2 ⟨p, A, O2, rfl, hA2, hG2⟩
  have b0 : w2.cell? ⟨w.heap.size, 0, none⟩ = some v1 := hG2.1.cell (by go_simp) (fun h => h)
  have b1 : w2.cell? ⟨w.heap.size, 1, none⟩ = some (.slice A2 d.funs.length n2) := hG2.1.cell (by go_simp) (fun h => h)
  have b2 : w2.cell? ⟨w.heap.size, 2, none⟩ = some v3 := hG2.1.cell (by go_simp) (fun h => h)
  have b3 : w2.cell? ⟨w.heap.size, 3, none⟩ = some (.slice A4 d.cmds.length n4) := hG2.1.cell (by go_simp) (fun h => h)
  have hn2 : ¬ O2 w.heap.size := fun h => hG2.2 _ (by simp) h
  have HG2 := Lib.hid ((Gr.of (O := NoB) HE1.out).trans hG2)
  have HA2 := Lib.hid hA2
  have lb := cell_lt b0
  clear hG2 hA2
  unfold ptr
  go_wp2_with fail
  refine (c_laid HA2.out d _ (kDump.aggKeep HD.out HG2.out.1 HG2.out.2) HS.out HL.out).mono ?_
  rintro e w3 ⟨A3, O3, rfl, hA3, hG3⟩
  replace b0 := hG3.1.cell b0 hn2
  replace b1 := hG3.1.cell b1 hn2
  replace b2 := hG3.1.cell b2 hn2
  replace b3 := hG3.1.cell b3 hn2
  have HG3 := Lib.hid (HG2.out.trans hG3)
  have HA3 := Lib.hid hA3
  have HD3 := Lib.hid (kCmds.oneKeep D4.out HG3.out.1 HG3.out.2)
  have HBQ : Hid (Bq w.heap.size v1 (.slice A2 d.funs.length n2) v3 (.slice A4 d.cmds.length n4) w3) := Lib.hid ⟨b0, b1, b2, b3⟩
  clear hG3 hA3 HG2 HA2 HE1 HD D4 hn2
  go_wp2_with fail
  clear b0 b1 b2 b3
  go_loopw [5, 16] (fun lv i wr => ∃ k : Nat, k ≤ d.cmds.length ∧ i = .int .i64 k ∧ lv = .int .i64 (levelTo d.cmds k) ∧ Hid (Ext NoB w3 wr)) (fun _ i _ => d.cmds.length - (intOf i).toNat)
  case atStart => exact ⟨0, by omega, rfl, rfl, Lib.hid (Ext.refl _ _)⟩
  case round =>
    obtain ⟨k, hk, rfl, rfl, HE⟩ := hrel
    obtain ⟨b0, b1, b2, b3⟩ := HBQ.out.ext HE.out (fun h => h)
    have HAr := Lib.hid (HA3.out.ext HE.out)
    have HDk := Lib.hid (kCmds.oneExt HD3.out HE.out.no)
    by_cases hlt : k < d.cmds.length
    · obtain ⟨_, _, hv, _, _, hr⟩ := Kd.one_slice HDk.out
      injection hv with hv1 hv2 hv3
      subst hv1
      clear hv2 hv3
      obtain ⟨sb, so, hA, hnO, hrow⟩ := hr (ne_nil_of_lt hlt)
      subst hA
      obtain ⟨c, hsk⟩ := at_some hlt
      obtain ⟨⟨x0, x1, x2, x3, x4⟩, _⟩ := row_cmd hrow hsk
      have hok := HL.out.cmds k c hsk
      obtain ⟨l0, l1⟩ := level_pos HL.out k (by omega)
      have hls := level_lit hsk
      obtain ⟨kind, n, name, fn, term⟩ := c
      simp only at x0 x1 x2 x3 x4 hls
      obtain ⟨_, _, _, _, _, k7, k8⟩ := hok
      simp only at k7 k8
      have HOK := Lib.hid (HL.out.cmds k _ hsk)
      have HLS := Lib.hid hls
      have hE1 : Ext NoB wr (wr.alloc (.cells #[.int .i64 kind, .int .i64 n, .string name, .int .i64 fn, .int .i64 term] 76)) := (Ext.refl _ _).alloc _
      have HE1 := Lib.hid hE1
      clear hrow hr hsk hls hE1
      have lx := cell_lt x0
      have lw := cell_lt b0
      go_wp2_with fail
      refine (c_isRight d (HAr.out.ext HE1.out) kind n fn term name _ HOK.out).mono ?_
      rintro e w5 ⟨rfl, he⟩
      have y0 : w5.cell? ⟨wr.heap.size, 0, none⟩ = some (.int .i64 kind) := he.cell (by go_simp) (fun h => h)
      have y1 : w5.cell? ⟨wr.heap.size, 1, none⟩ = some (.int .i64 n) := he.cell (by go_simp) (fun h => h)
      have HE5 := Lib.hid (HE.out.trans (HE1.out.trans he))
      clear he HE1
      generalize levelTo d.cmds k = lev at *
      by_cases e7 : kind = 7
      · subst e7
        obtain ⟨n0, n1⟩ := k7 rfl
        have hb : decide (1000 - lev < n) = false := by rw [decide_eq_false_iff_not]; omega
        have E1 : Hid (levelTo d.cmds (k + 1) = lev + n) := Lib.hid (by rw [HLS.out, if_pos rfl])
        clear k7 k8 HLS HOK
        go_wp2_with fail
        exact ⟨⟨k + 1, by omega, by go_num, by rw [E1.out], HE5.out⟩, by simp [intOf]; omega⟩
      · have q7 : (kind == 7) = false := by rw [beq_eq_false_iff_ne]; exact e7
        by_cases e8 : kind = 8
        · subst e8
          obtain ⟨n0, n1⟩ := k8 rfl
          have hb : decide (lev < n) = false := by rw [decide_eq_false_iff_not]; omega
          have E1 : Hid (levelTo d.cmds (k + 1) = lev - n) := Lib.hid (by rw [HLS.out, if_neg (by decide), if_pos rfl])
          clear k7 k8 HLS HOK e7 q7
          go_wp2_with fail
          exact ⟨⟨k + 1, by omega, by go_num, by rw [E1.out], HE5.out⟩, by simp [intOf]; omega⟩
        · have q8 : (kind == 8) = false := by rw [beq_eq_false_iff_ne]; exact e8
          have E1 : Hid (levelTo d.cmds (k + 1) = lev) := Lib.hid (by rw [HLS.out, if_neg e7, if_neg e8])
          clear k7 k8 HLS HOK e7 e8
          go_wp2_with fail
          exact ⟨⟨k + 1, by omega, by go_num, by rw [E1.out], HE5.out⟩, by simp [intOf]; omega⟩
    · obtain rfl : k = d.cmds.length := by omega
      clear hlt
      have lw := cell_lt b0
      go_wp2_with (at_builtin; refine wpl_append kCmd (by decide) rfl (.const (.slice none 0 0)) (.tmp 53) 25 rfl wr.heap.size 76 _ 48 Tryz.underlying25 info_Cmd rfl O3 (.slice none 0 0) rfl [] (Own.nil wr _ _ _) (.slice A4 d.cmds.length n4) rfl d.cmds (kCmds.oneV HDk.out (Ext.refl _ _) (fun g h => by cases h)) (by omega) (by simp only [List.length_nil]; omega) (Nat.le_refl _) ?_; intro v1 w1 hO1 hE1 hat1; rw [List.nil_append] at hO1; (obtain ⟨V1, vc1, hv1, -, -⟩ := hO1.shape); subst hv1; (have HO1 := Lib.hid hO1); (have HE1 : Hid (Ext NoB wr w1) := Lib.hid (hE1.mono (fun i _ h => by cases h))); clear hO1 hE1 hat1)
      go_ret2
      have hE2 : Ext NoB w1 (w1.alloc (.cells #[ptr p, .slice V1 d.cmds.length vc1] 66)) := (Ext.refl _ _).alloc _
      have hres : Scr (w1.alloc (.cells #[ptr p, .slice V1 d.cmds.length vc1] 66)) O3 w1.heap.size d := ⟨p, A3, _, by go_simp, by go_simp, kCmds.oneExt (HO1.out.slice (fun b hb => HAr.out.old b hb)) hE2.no, HAr.out.ext (HE1.out.trans hE2)⟩
      have hgr : Gr NoB w O3 (w1.alloc (.cells #[ptr p, .slice V1 d.cmds.length vc1] 66)) := ⟨HG3.out.1.trans (HE.out.trans (HE1.out.trans hE2)), HG3.out.2⟩
      first
        | exact ⟨_, O3, rfl, hres, hgr⟩
        | exact ⟨_, rfl, O3, hres, hgr⟩
        | exact ⟨O3, _, rfl, hres, hgr⟩
end
end Go.Proofs.YtfpmapbimhdafaaGreatDoor

namespace Go.Proofs.YtfpmapbimhdafaaGreatDoor
open Go.RowKit
set_option linter.unusedVariables false
set_option linter.unusedSimpArgs false

/-- Without those, at the end, of a level above L. -/
def popTo (L : Int) (l : List (Int × Int)) : List (Int × Int) := (l.reverse.dropWhile (fun h => decide (L < h.2))).reverse
theorem popTo_nil (L : Int) : popTo L [] = [] := rfl
theorem popTo_snoc (L : Int) (l : List (Int × Int)) (x : Int × Int) : popTo L (l ++ [x]) = if L < x.2 then popTo L l else l ++ [x] := by
  unfold popTo
  rw [List.reverse_append, List.reverse_singleton, List.singleton_append, List.dropWhile_cons]
  by_cases h : L < x.2
  · rw [if_pos (by simpa using h), if_pos h]
  · rw [if_neg (by simpa using h), if_neg h]
    simp
theorem popTo_len (L : Int) (l : List (Int × Int)) : (popTo L l).length ≤ l.length := by
  unfold popTo
  rw [List.length_reverse]
  exact Nat.le_trans (List.dropWhile_suffix _).length_le (by simp)
/-- The asserts that stand behind k commands; what was told. -/
def allTo (cmds : List Cmd) : Nat → List (Int × Int)
  | 0 => []
  | k + 1 => match cmds[k]? with
    | some c => if c.kind = 4 then allTo cmds k ++ [(c.term, levelTo cmds k)] else if c.kind = 8 then popTo (levelTo cmds (k + 1)) (allTo cmds k) else allTo cmds k
    | none => allTo cmds k
def outTo (cmds : List Cmd) : Nat → List (List Int)
  | 0 => []
  | k + 1 => match cmds[k]? with
    | some c => if c.kind = 5 then outTo cmds k ++ [(allTo cmds k).map (·.1)] else outTo cmds k
    | none => outTo cmds k
def liveLen (cmds : List Cmd) : Nat := (cmds.takeWhile (fun c => decide (c.kind ≠ 9))).length
def assertedL (cmds : List Cmd) : List (List Int) := outTo cmds (liveLen cmds)
theorem allTo_succ {cmds : List Cmd} {k : Nat} {c : Cmd} (h : cmds[k]? = some c) : allTo cmds (k + 1) = if c.kind = 4 then allTo cmds k ++ [(c.term, levelTo cmds k)] else if c.kind = 8 then popTo (levelTo cmds (k + 1)) (allTo cmds k) else allTo cmds k := by rw [allTo, h]
theorem outTo_succ {cmds : List Cmd} {k : Nat} {c : Cmd} (h : cmds[k]? = some c) : outTo cmds (k + 1) = if c.kind = 5 then outTo cmds k ++ [(allTo cmds k).map (·.1)] else outTo cmds k := by rw [outTo, h]
theorem allTo_len (cmds : List Cmd) : ∀ k, (allTo cmds k).length ≤ k
  | 0 => by simp [allTo]
  | k + 1 => by
    have ih := allTo_len cmds k
    rw [allTo]
    split
    · split
      · simp; omega
      · split
        · have := popTo_len (levelTo cmds (k + 1)) (allTo cmds k); omega
        · omega
    · omega
theorem outTo_len (cmds : List Cmd) : ∀ k, (outTo cmds k).length ≤ k
  | 0 => by simp [outTo]
  | k + 1 => by
    have ih := outTo_len cmds k
    rw [outTo]
    split
    · split
      · simp; omega
      · omega
    · omega
theorem live_at {cmds : List Cmd} {k : Nat} {c : Cmd} (h : cmds[k]? = some c) (h9 : c.kind = 9) (hn : ∀ (j : Nat) (x : Cmd), j < k → cmds[j]? = some x → x.kind ≠ 9) : liveLen cmds = k := by
  induction cmds generalizing k with
  | nil => simp at h
  | cons a l ih =>
    cases k with
    | zero =>
      simp at h
      subst h
      simp [liveLen, h9]
    | succ k =>
      have ha := hn 0 a (by omega) rfl
      have := ih (k := k) (by simpa using h) (fun j x hj hx => hn (j + 1) x (by omega) (by simpa using hx))
      unfold liveLen at this ⊢
      rw [List.takeWhile_cons, if_pos (by simpa using ha), List.length_cons, this]
theorem live_all {cmds : List Cmd} (hn : ∀ (j : Nat) (x : Cmd), j < cmds.length → cmds[j]? = some x → x.kind ≠ 9) : liveLen cmds = cmds.length := by
  induction cmds with
  | nil => rfl
  | cons a l ih =>
    have ha := hn 0 a (by simp) rfl
    have := ih (fun j x hj hx => hn (j + 1) x (by simpa using hj) (by simpa using hx))
    unfold liveLen at this ⊢
    rw [List.takeWhile_cons, if_pos (by simpa using ha), List.length_cons, this, List.length_cons]

/-- A term that is asserted, and its level. -/
def kHeld : Kd (Int × Int) := kInt.pair kInt
theorem kHeld_iff {w : World} {O : Nat → Prop} {x : Int × Int} {cs : List Value} : kHeld.rep w O x cs ↔ cs = [.int .i64 x.1, .int .i64 x.2] ∧ (Lit.int .i64 x.1).wf = true ∧ (Lit.int .i64 x.2).wf = true := by
  constructor
  · rintro ⟨c1, c2, rfl, ⟨h0, h1⟩, h2, h3⟩
    exact ⟨by rw [h0, h2]; rfl, h1, h3⟩
  · rintro ⟨rfl, h1, h2⟩
    exact ⟨[.int .i64 x.1], [.int .i64 x.2], rfl, ⟨rfl, h1⟩, rfl, h2⟩
theorem info_held : (Tryz.prog.info? 129).map (fun i => (i.zero, i.size, i.bytes)) = some (some (.agg #[.int .i64 0, .int .i64 0]), 2, 16) := by kernel_rfl
abbrev kIntss : Kd (List (List Int)) := kInts.slice (by decide)
theorem Own.anyHeld {w : World} {base : Nat} {e : TypeId} {O O' : Nat → Prop} {v : Value} {xs : List (Int × Int)} (h : Own w base e kHeld O v xs) : Own w base e kHeld O' v xs := by
  obtain ⟨css, h1, h2⟩ := h
  exact ⟨css, h1, h2.mono fun _ _ h => h⟩
theorem Own.held_at {W : World} {base g n c : Nat} {e : TypeId} {O : Nat → Prop} {xs : List (Int × Int)} (h : Own W base e kHeld O (.slice (some ⟨g, 0, none⟩) n c) xs) {i : Nat} {x : Int × Int} (hx : xs[i]? = some x) :
    W.cell? ⟨g, i * 2, none⟩ = some (.int .i64 x.1) ∧ W.cell? ⟨g, i * 2 + 1, none⟩ = some (.int .i64 x.2) ∧ (Lit.int .i64 x.1).wf = true := by
  obtain ⟨cs, hr, hc⟩ := h.at_ hx
  obtain ⟨rfl, w1, w2⟩ := kHeld_iff.1 hr
  exact ⟨hc 0 _ rfl, hc 1 _ rfl, w1⟩
theorem Alls.unsnoc {α β : Type} {R : α → β → Prop} {l : List α} {x : α} {m : List β} (h : Alls R (l ++ [x]) m) : ∃ m' y, m = m' ++ [y] ∧ Alls R l m' ∧ R x y := by
  induction l generalizing m with
  | nil =>
    cases h with
    | cons h1 h2 =>
      cases h2
      exact ⟨[], _, rfl, .nil, h1⟩
  | cons a l ih =>
    cases h with
    | cons h1 h2 =>
      obtain ⟨m', y, rfl, h3, h4⟩ := ih h2
      exact ⟨_ :: m', y, rfl, .cons h1 h3, h4⟩
/-- Without its last element. -/
theorem Own.pop {α : Type} {k : Kd α} {W : World} {base g n c : Nat} {e : TypeId} {O : Nat → Prop} {xs : List α} {x : α} (hn : xs.length = n) (h : Own W base e k O (.slice (some ⟨g, 0, none⟩) (n + 1) c) (xs ++ [x])) : Own W base e k O (.slice (some ⟨g, 0, none⟩) n c) xs := by
  obtain ⟨css, h1, h2⟩ := h
  obtain ⟨m, y, rfl, h3, h4⟩ := h2.unsnoc
  have hs : ∀ c ∈ m, c.length = k.size := fun c hc => by
    obtain ⟨z, _, hz⟩ := h3.mem c hc
    exact k.len hz
  rw [List.flatten_append, List.length_append, List.length_singleton, hn] at h1
  refine ⟨m, ?_, h3.mono fun a cs ha => k.turn ha fun b _ hb => hb⟩
  rw [hn]
  exact ownsRow_pop (by rw [flat_len hs, ← h3.length, hn]) h1

/-- What is told, and what stands: side by side. -/
def AsR (w0 : World) (O : Nat → Prop) (vo va : Value) (out : List (List Int)) (all : List (Int × Int)) (w : World) : Prop :=
  Ext NoB w0 w ∧ Own w w0.heap.size 28 kInts (PlusV O va) vo out ∧ Own w w0.heap.size 129 kHeld O va all ∧ ∀ b, va.ownBlock = some b → vo.ownBlock ≠ some b
theorem AsR.ext {w0 w w' : World} {O : Nat → Prop} {vo va : Value} {out : List (List Int)} {all : List (Int × Int)} (h : AsR w0 O vo va out all w) (he : Ext NoB w w') : AsR w0 O vo va out all w' :=
  ⟨h.1.trans he, h.2.1.ext he, h.2.2.1.ext he, h.2.2.2⟩
theorem AsR.start (w0 : World) (O : Nat → Prop) : AsR w0 O (.slice none 0 0) (.slice none 0 0) [] [] w0 := ⟨Ext.refl _ _, Own.nil _ _ _ _, Own.nil _ _ _ _, fun b h => by cases h⟩
/-- One assert more. -/
theorem AsR.all {w0 w w' : World} {O : Nat → Prop} {vo va va' : Value} {out : List (List Int)} {all all' : List (Int × Int)} (h : AsR w0 O vo va out all w) (he : Ext (fun b => va.ownBlock = some b) w w') (ho : Own w' w0.heap.size 129 kHeld O va' all') (hv : va'.ownBlock = va.ownBlock ∨ ∃ g, va'.ownBlock = some g ∧ w.heap.size ≤ g) : AsR w0 O vo va' out all' w' := by
  obtain ⟨h1, h2, h3, h4⟩ := h
  refine ⟨h1.then he (fun i hi e => absurd (h3.base e).1 (by omega)), h2.move he (fun b hb e => ⟨.inr e, h4 b e⟩) (fun b hb h' => h'.elim .inl fun e => ?_), ho, fun b hb e => ?_⟩
  · rcases hv with hv | ⟨g, hg, hgl⟩
    · exact .inr (hv ▸ e)
    · rw [hg] at e
      injection e with e
      omega
  · rcases hv with hv | ⟨g, hg, hgl⟩
    · exact h4 b (hv ▸ hb) e
    · rw [hg] at hb
      injection hb with hb
      have := (h2.base e).2
      omega
/-- One list more that is told. -/
theorem AsR.out {w0 w w' : World} {O : Nat → Prop} {vo vo' va : Value} {out out' : List (List Int)} {all : List (Int × Int)} (h : AsR w0 O vo va out all w) (he : Ext (fun b => vo.ownBlock = some b) w w') (ho : Own w' w0.heap.size 28 kInts (PlusV O va) vo' out') (hv : vo'.ownBlock = vo.ownBlock ∨ ∃ g, vo'.ownBlock = some g ∧ w.heap.size ≤ g) : AsR w0 O vo' va out' all w' := by
  obtain ⟨h1, h2, h3, h4⟩ := h
  refine ⟨h1.then he (fun i hi e => absurd (h2.base e).1 (by omega)), ho, ((h3.anyHeld (O' := PlusV O vo)).move he (fun b hb e => ⟨.inr e, fun e2 => h4 b e2 e⟩) (fun b _ h => h)).anyHeld, fun b hb e => ?_⟩
  rcases hv with hv | ⟨g, hg, hgl⟩
  · exact h4 b hb (hv ▸ e)
  · rw [hg] at e
    injection e with e
    have := (h3.base hb).2
    omega
/-- One assert less. -/
theorem AsR.pop {w0 w : World} {O : Nat → Prop} {vo va va' : Value} {out : List (List Int)} {all all' : List (Int × Int)} (h : AsR w0 O vo va out all w) (ho : Own w w0.heap.size 129 kHeld O va' all') (hv : va'.ownBlock = va.ownBlock) : AsR w0 O vo va' out all' w :=
  h.all (Ext.refl _ _) ho (.inl hv)

theorem Own.sliceN {α : Type} {k : Kd α} {pos : 0 < k.size} {w : World} {base : Nat} {e : TypeId} {O : Nat → Prop} {v : Value} {xs : List α} (h : Own w base e k O v xs) (hn : ∀ g, v.ownBlock = some g → ¬ O g) : (k.slice pos).one w O xs v := by
  obtain ⟨css, hrow, hall⟩ := h
  have hs : ∀ c ∈ css, c.length = k.size := fun c hc => by
    obtain ⟨x, _, hx⟩ := hall.mem c hc
    exact k.len hx
  have hrow' := hrow
  obtain ⟨hl, h1⟩ := hrow
  rcases h1 with ⟨rfl, h0⟩ | ⟨g, cap, cur, rfl, hg, hh, h2, h3, h4⟩
  · have : xs = [] := List.eq_nil_of_length_eq_zero h0
    subst this
    exact Kd.nil_mk
  · refine Kd.slice_mk h2 h3 fun hne => ⟨g, 0, rfl, hn g rfl, fun i x hx => ?_⟩
    obtain ⟨cs, hcs, hr⟩ := hall.at_ i x hx
    refine ⟨cs, k.turn hr fun b _ hb => .inl hb, fun j v hj => ?_⟩
    have hc := hrow'.cells (g := g) rfl _ v (flat_at hs i cs j v hcs hj)
    rw [show (0 + i * k.size + j) = i * k.size + j by omega]
    rwa [add_at, Nat.zero_add] at hc
theorem AsR.told {w0 w : World} {O : Nat → Prop} {vo va : Value} {out : List (List Int)} {all : List (Int × Int)} (h : AsR w0 O vo va out all w) (hO : OldO O w0) : kIntss.one w O out vo := by
  obtain ⟨h1, h2, h3, h4⟩ := h
  have := h2.sliceN (pos := Nat.one_pos) (fun g hg h' => h'.elim (fun h => by have := hO g h; have := (h2.base hg).1; omega) (fun e => h4 g e hg))
  exact kIntss.turn this fun b _ hb => .inl hb
/-- 'append(v, y)': the goal's world is the one behind the literal, that lies at block H. -/
theorem wpl_append1H {P : Program} {ops : Array Oper} {rest : List Oper} {o : Oper} {a : Act} {Q : Exit → Act → World → Prop} {α : Type} (k : Kd α) (pos : 0 < k.size) {W : World} (H : Nat) (hH : W.heap.size = H) (hgd : o.guard = none) (s x : Operand) (t : TypeId)
    (ho : o.op = .call { callee := .builtin .append, args := #[s, x], argTypes := #[t, t] })
    (base : Nat) (e : TypeId) (z : Value) (bytes : Nat) (ht : P.underlying t = some (.slice e))
    (hinfo : (P.info? e).map (fun i => (i.zero, i.size, i.bytes)) = some (some z, k.size, bytes)) (hzs : z.cells.size = k.size) (O : Nat → Prop)
    (v : Value) (hs : a.eval s = v) (xs : List α) (hown : Own W base e k O v xs) (hx : a.eval x = .slice (some ⟨H, 0, none⟩) 1 1) (y : α) (cs : List Value) (hy : k.rep W (PlusV O v) y cs) (hO : ∀ b, O b → b < W.heap.size)
    (hb0 : 0 < bytes) (hbytes : (xs.length + 1) * bytes ≤ 140737488355328) (hbase : base ≤ W.heap.size)
    (h : ∀ v' w', Own w' base e k O v' (xs ++ [y]) → Ext (fun b => v.ownBlock = some b) W w' → (v'.ownBlock = v.ownBlock ∨ ∃ g, v'.ownBlock = some g ∧ W.heap.size ≤ g) → wpList P ops Q rest (a.put o.dst v') w') :
    wpList P ops Q (o :: rest) a (W.alloc (.cells cs.toArray e)) :=
  wpl_append1 k pos hgd s x t ho base e z bytes ht hinfo hzs O v hs xs hown (hH ▸ hx) y cs hy hO hb0 hbytes hbase h

def sliceLen : Value → Nat
  | .slice _ n _ => n
  | _ => 0
section
variable {w : World} {O : Nat → Prop} {s : Nat}
set_option maxRecDepth 100000 in
set_option maxHeartbeats 8000000 in
theorem c_Asserted (d : Dump) (h : Scr w O s d) (hs : Small d) (hl : LoadOk d) :
    Calls Tryz.prog 38 #[ptr s] w fun e w' => ∃ v, e = .returned v ∧ kIntss.one w' O (assertedL d.cmds) v ∧ Ext NoB w w' := by
  obtain ⟨p, A, v, s0, s1, hv, hA⟩ := h
  have HO := Lib.hid hA.old
  have HV := Lib.hid hv
  obtain ⟨A1, n1, hv1, hc1, hm1, _⟩ := Kd.one_slice hv
  subst hv1
  have HL := Lib.hid hl
  have hnc := hs.nc
  have lw := cell_lt s1
  clear hv hA s0 hs hl hm1
  unfold ptr
  go_enter Tryz.func38, Tryz.ntmps38
  go_wp2_with fail
  go_loopw [3, 4, 5, 16] (fun vo va lv i wr => ∃ k : Nat, k ≤ d.cmds.length ∧ i = .int .i64 k ∧ lv = .int .i64 (levelTo d.cmds k) ∧ Hid (AsR w O vo va (outTo d.cmds k) (allTo d.cmds k) wr ∧ ∀ (j : Nat) (x : Cmd), j < k → d.cmds[j]? = some x → x.kind ≠ 9)) (fun _ _ _ i _ => d.cmds.length - (intOf i).toNat)
  case atStart => exact ⟨0, by omega, rfl, rfl, Lib.hid ⟨AsR.start w O, fun j x hj => by omega⟩⟩
  case round =>
    obtain ⟨k, hk, rfl, rfl, HR⟩ := hrel
    have HDk := Lib.hid (kCmds.oneExt HV.out HR.out.1.1.no)
    obtain ⟨Vo, co, hvo, _, _⟩ := HR.out.1.2.1.shape
    obtain ⟨Va, ca, hva, _, _⟩ := HR.out.1.2.2.1.shape
    subst hvo
    subst hva
    have hol := outTo_len d.cmds k
    have hal := allTo_len d.cmds k
    by_cases hlt : k < d.cmds.length
    · obtain ⟨_, _, hv, _, _, hr⟩ := Kd.one_slice HDk.out
      injection hv with hv1 hv2 hv3
      subst hv1
      clear hv2 hv3
      obtain ⟨sb, so, hA, hnO, hrow⟩ := hr (ne_nil_of_lt hlt)
      subst hA
      obtain ⟨c, hsk⟩ := at_some hlt
      obtain ⟨⟨x0, x1, x2, x3, x4⟩, _, _, _, _, hwt⟩ := row_cmd hrow hsk
      have hok := HL.out.cmds k c hsk
      obtain ⟨l0, l1⟩ := level_pos HL.out k (by omega)
      have hls := level_lit hsk
      have hls' := allTo_succ hsk
      have hlo' := outTo_succ hsk
      obtain ⟨kind, n, name, fn, term⟩ := c
      simp only at x0 x1 x2 x3 x4 hls hls' hlo' hwt
      obtain ⟨_, _, _, _, _, k7, k8⟩ := hok
      simp only at k7 k8
      have HSK := Lib.hid hsk
      have HLS := Lib.hid hls
      have HLA := Lib.hid hls'
      have HLO := Lib.hid hlo'
      have hE1 : Ext NoB wr (wr.alloc (.cells #[.int .i64 kind, .int .i64 n, .string name, .int .i64 fn, .int .i64 term] 76)) := (Ext.refl _ _).alloc _
      have HE1 := Lib.hid hE1
      have HR1 := Lib.hid (HR.out.1.ext hE1)
      have HRN := Lib.hid HR.out.2
      clear hrow hr hsk hls hls' hlo' hE1
      have lx := cell_lt x0
      have hNE : Hid (kind ≠ 9 → ∀ (j : Nat) (x : Cmd), j < k + 1 → d.cmds[j]? = some x → x.kind ≠ 9) := Lib.hid (fun h9 j x hj hx => by
        rcases Nat.lt_or_ge j k with h | h
        · exact HRN.out j x h hx
        · obtain rfl : j = k := by omega
          rw [HSK.out] at hx
          obtain rfl := Option.some.inj hx
          exact h9)
      by_cases e4 : kind = 4
      · subst e4
        clear k7 k8
        have HKA : Hid (allTo d.cmds (k + 1) = allTo d.cmds k ++ [(term, levelTo d.cmds k)]) := Lib.hid (by rw [HLA.out, if_pos rfl])
        have HKO : Hid (outTo d.cmds (k + 1) = outTo d.cmds k) := Lib.hid (by rw [HLO.out, if_neg (by decide)])
        have HKL : Hid (levelTo d.cmds (k + 1) = levelTo d.cmds k) := Lib.hid (by rw [HLS.out, if_neg (by decide), if_neg (by decide)])
        go_wp2_with (at_builtin; go_loud (refine wpl_append1H kHeld (by decide) (wr.heap.size + 1) (by simp) rfl (.tmp 24) (.tmp 29) 127 rfl w.heap.size 129 _ 16 Tryz.underlying127 info_held rfl O (.slice Va (allTo d.cmds k).length ca) rfl (allTo d.cmds k) HR1.out.2.2.1 rfl (term, levelTo d.cmds k) [_, _] (kHeld_iff.2 ⟨rfl, hwt, wf_i (by show _ ≤ levelTo d.cmds k; omega) (by show levelTo d.cmds k ≤ _; omega)⟩) (HO.out.ext HR1.out.1) (by omega) (by omega) HR1.out.1.size ?_); intro v2 w2 hO2 hE2 hat2; (have HR2 := Lib.hid (HR1.out.all hE2 hO2 hat2)); clear hO2 hE2 hat2)
        exact ⟨⟨k + 1, by omega, by go_num, by rw [HKL.out], Lib.hid ⟨by rw [HKA.out, HKO.out]; exact HR2.out, hNE.out (by decide)⟩⟩, by simp [intOf]; omega⟩
      · have q4 : (kind == 4) = false := by rw [beq_eq_false_iff_ne]; exact e4
        by_cases e5 : kind = 5
        · subst e5
          clear k7 k8
          have HKA : Hid (allTo d.cmds (k + 1) = allTo d.cmds k) := Lib.hid (by rw [HLA.out, if_neg (by decide), if_neg (by decide)])
          have HKO : Hid (outTo d.cmds (k + 1) = outTo d.cmds k ++ [(allTo d.cmds k).map (·.1)]) := Lib.hid (by rw [HLO.out, if_pos rfl])
          have HKL : Hid (levelTo d.cmds (k + 1) = levelTo d.cmds k) := Lib.hid (by rw [HLS.out, if_neg (by decide), if_neg (by decide)])
          clear e4
          go_wp2_with fail
          generalize wr.alloc (.cells #[.int .i64 5, .int .i64 n, .string name, .int .i64 fn, .int .i64 term] 76) = w1 at *
          have hz1 : w.heap.size ≤ w1.heap.size := HR1.out.1.size
          go_loopw [8, 35] (fun vt i wq => ∃ j : Nat, j ≤ (allTo d.cmds k).length ∧ i = .int .i64 j ∧ Hid (Ext NoB w1 wq ∧ Own wq w1.heap.size 3 kInt O vt (((allTo d.cmds k).map (·.1)).take j))) (fun _ i _ => (allTo d.cmds k).length - (intOf i).toNat)
          case atStart => exact ⟨0, by omega, rfl, Lib.hid ⟨Ext.refl _ _, Own.nil _ _ _ _⟩⟩
          case round =>
            clear x0 x1 x2 x3 x4 lx
            obtain ⟨j, hj, rfl, HQ⟩ := hrel
            obtain ⟨Vt, ct, hvt, hct, _⟩ := HQ.out.2.shape
            have hlt' : (((allTo d.cmds k).map (·.1)).take j).length = j := by rw [List.length_take, List.length_map]; omega
            rw [hlt'] at hvt hct
            subst hvt
            clear hct
            have HLT := Lib.hid hlt'
            clear hlt'
            have HRq := Lib.hid (HR1.out.ext HQ.out.1)
            by_cases hja : j < (allTo d.cmds k).length
            · obtain ⟨⟨tt, tl⟩, hx⟩ := at_some hja
              obtain ⟨ga, ca', hga⟩ := HRq.out.2.2.1.form (by omega)
              injection hga with hg1 hg2 hg3
              clear hg2
              subst hg1
              clear hg3
              obtain ⟨z0, z1, hwz⟩ := HRq.out.2.2.1.held_at hx
              simp only at z0 z1 hwz
              have HTK : Hid (((allTo d.cmds k).map (·.1)).take (j + 1) = ((allTo d.cmds k).map (·.1)).take j ++ [tt]) := Lib.hid (take_snoc' (by rw [List.getElem?_map, hx]; rfl))
              have lz := cell_lt z0
              clear hx
              go_wp2_with (at_builtin; refine wpl_append1H kInt (by decide) (wr.heap.size + 1) (by simp) rfl (.tmp 39) (.tmp 42) 28 rfl w1.heap.size 3 _ 8 Tryz.underlying28 info_int rfl O (.slice Vt j ct) rfl (((allTo d.cmds k).map (·.1)).take j) (HQ.out.2.ext ((Ext.refl NoB _).alloc _)) rfl tt [_] ⟨rfl, hwz⟩ ((HO.out.ext HRq.out.1).ext ((Ext.refl NoB _).alloc (.cells #[.int .i64 tt, .int .i64 tl] 129))) (by omega) (by have := HLT.out; omega) (HQ.out.1.trans ((Ext.refl NoB _).alloc (.cells #[.int .i64 tt, .int .i64 tl] 129))).size ?_; intro v2 w2 hO2 hE2 hat2; (have HO2 := Lib.hid hO2); (have HE2 := Lib.hid hE2); clear hO2 hE2 hat2)
              exact ⟨⟨j + 1, by omega, by go_num, Lib.hid ⟨(HQ.out.1.trans ((Ext.refl NoB _).alloc _)).then HE2.out (fun i hi e => absurd (HQ.out.2.base e).1 (by omega)), by rw [HTK.out]; exact HO2.out⟩⟩, by simp [intOf]; omega⟩
            · obtain rfl : j = (allTo d.cmds k).length := by omega
              have HTK : Hid (((allTo d.cmds k).map (·.1)).take (allTo d.cmds k).length = (allTo d.cmds k).map (·.1)) := Lib.hid (List.take_of_length_le (by simp))
              have HOW := HQ.out.2
              rw [HTK.out] at HOW
              have HOW := Lib.hid HOW
              have hbl : ∀ b, PlusV (PlusV O (.slice Va (allTo d.cmds k).length ca)) (.slice Vo (outTo d.cmds k).length co) b → b < w1.heap.size := by
                rintro b ((hb | hb) | hb)
                · exact Nat.lt_of_lt_of_le (HO.out b hb) hz1
                · exact (HR1.out.2.2.1.base hb).2
                · exact (HR1.out.2.1.base hb).2
              have hyt : kInts.rep wr (PlusV (PlusV O (.slice Va (allTo d.cmds k).length ca)) (.slice Vo (outTo d.cmds k).length co)) ((allTo d.cmds k).map (·.1)) [.slice Vt (allTo d.cmds k).length ct] := (HOW.out.anyO (O' := PlusV (PlusV O (.slice Va (allTo d.cmds k).length ca)) (.slice Vo (outTo d.cmds k).length co))).slice (pos := Nat.one_pos) hbl
              have hbo : ∀ b, PlusV O (.slice Va (allTo d.cmds k).length ca) b → b < wr.heap.size := fun b hb => Nat.lt_of_lt_of_le (hbl b (.inl hb)) HQ.out.1.size
              have HYT := Lib.hid hyt
              have HBO := Lib.hid hbo
              clear hbl hyt hbo
              go_wp2_with (at_builtin; refine wpl_append1H kInts (by decide) wr.heap.size (by rfl) rfl (.tmp 45) (.tmp 47) 98 rfl w.heap.size 28 _ 24 Tryz.underlying98 info_ints rfl (PlusV O (.slice Va (allTo d.cmds k).length ca)) (.slice Vo (outTo d.cmds k).length co) rfl (outTo d.cmds k) HRq.out.2.1 rfl ((allTo d.cmds k).map (·.1)) [_] HYT.out HBO.out (by omega) (by omega) HRq.out.1.size ?_; intro v2 w2 hO2 hE2 hat2; (have HR2 := Lib.hid (HRq.out.out hE2 hO2 hat2)); clear hO2 hE2 hat2)
              exact ⟨⟨k + 1, by omega, by go_num, by rw [HKL.out], Lib.hid ⟨by rw [HKA.out, HKO.out]; exact HR2.out, hNE.out (by decide)⟩⟩, by simp [intOf]; omega⟩
        · have q5 : (kind == 5) = false := by rw [beq_eq_false_iff_ne]; exact e5
          have HKO : Hid (outTo d.cmds (k + 1) = outTo d.cmds k) := Lib.hid (by rw [HLO.out, if_neg e5])
          by_cases e7 : kind = 7
          · subst e7
            obtain ⟨n0, n1'⟩ := k7 rfl
            clear k7 k8
            have HKA : Hid (allTo d.cmds (k + 1) = allTo d.cmds k) := Lib.hid (by rw [HLA.out, if_neg (by decide), if_neg (by decide)])
            have HKL : Hid (levelTo d.cmds (k + 1) = levelTo d.cmds k + n) := Lib.hid (by rw [HLS.out, if_pos rfl])
            clear e4 e5 q4 q5
            generalize levelTo d.cmds k = lev at *
            go_wp2_with fail
            exact ⟨⟨k + 1, by omega, by go_num, congrArg (Value.int .i64) (by rw [HKL.out]; omega), Lib.hid ⟨by rw [HKA.out, HKO.out]; exact HR1.out, hNE.out (by decide)⟩⟩, by simp [intOf]; omega⟩
          · have q7 : (kind == 7) = false := by rw [beq_eq_false_iff_ne]; exact e7
            by_cases e8 : kind = 8
            · subst e8
              obtain ⟨n0, n1'⟩ := k8 rfl
              clear k7 k8
              have HKA : Hid (allTo d.cmds (k + 1) = popTo (levelTo d.cmds (k + 1)) (allTo d.cmds k)) := Lib.hid (by rw [HLA.out, if_neg (by decide), if_pos rfl])
              have HKL : Hid (levelTo d.cmds (k + 1) = levelTo d.cmds k - n) := Lib.hid (by rw [HLS.out, if_neg (by decide), if_pos rfl])
              clear e4 e5 q4 q5 e7 q7
              generalize levelTo d.cmds k = lev at *
              go_wp2_with fail
              rw [show max (lev - max n 0) 0 = lev - n by omega]
              generalize wr.alloc (.cells #[.int .i64 8, .int .i64 n, .string name, .int .i64 fn, .int .i64 term] 76) = w1 at *
              clear x0 x1 x2 x3 x4 lx
              go_loop [4] (fun u => ∃ l, sliceLen u = l.length ∧ Hid (AsR w O (.slice Vo (outTo d.cmds k).length co) u (outTo d.cmds k) l w1 ∧ l.length ≤ 60 ∧ popTo (lev - n) l = popTo (lev - n) (allTo d.cmds k))) (fun u => sliceLen u)
              case atStart => exact ⟨_, rfl, Lib.hid ⟨HR1.out, by omega, rfl⟩⟩
              case round =>
                obtain ⟨l, hll, HP⟩ := hrel
                obtain ⟨Vx, cx, hvx, hcx, hmx⟩ := HP.out.1.2.2.1.shape
                subst hvx
                clear hll
                have hl60 := HP.out.2.1
                have hcx9 : cx ≤ 9223372036854775807 := by unfold maxLen at hmx; omega
                clear hmx
                rcases List.eq_nil_or_concat l with hnil | ⟨L, x, hLx⟩
                · subst hnil
                  simp only [List.length_nil] at *
                  clear hcx
                  have HPO := HP.out.2.2
                  rw [popTo_nil] at HPO
                  have HPO := Lib.hid HPO
                  go_wp2_with fail
                  exact ⟨⟨k + 1, by omega, by go_num, congrArg (Value.int .i64) (by rw [HKL.out]), Lib.hid ⟨by rw [HKA.out, HKO.out, HKL.out, ← HPO.out]; exact HP.out.1, hNE.out (by decide)⟩⟩, by simp [intOf]; omega⟩
                · have hLl : l.length = L.length + 1 := by rw [hLx]; simp
                  rw [hLl] at hcx hl60 ⊢
                  obtain ⟨gx, cx', hgx⟩ := HP.out.1.2.2.1.form (by omega)
                  injection hgx with hg1 hg2 hg3
                  clear hg2
                  subst hg1
                  clear hg3
                  have HOWL := HP.out.1.2.2.1
                  rw [hLl] at HOWL
                  have hxa : l[L.length]? = some x := by rw [hLx]; simp
                  obtain ⟨z0, z1, _⟩ := HOWL.held_at hxa
                  have HPO := HP.out.2.2
                  rw [hLx, List.concat_eq_append, popTo_snoc] at HPO
                  have HPO := Lib.hid HPO
                  have HLX := Lib.hid (hLx.trans (List.concat_eq_append))
                  have HLL := Lib.hid hLl
                  obtain ⟨xt, xl⟩ := x
                  simp only at z0 z1
                  clear hLx hLl hxa HOWL z0
                  by_cases hgt : lev - n < xl
                  · have hb : decide (lev - n < xl) = true := decide_eq_true hgt
                    have HPP : Hid (popTo (lev - n) L = popTo (lev - n) (allTo d.cmds k)) := Lib.hid (by have := HPO.out; rwa [if_pos hgt] at this)
                    clear hgt
                    go_wp2_with fail
                    have hO := HP.out.1.2.2.1
                    rw [HLL.out] at hO
                    rw [HLX.out] at hO
                    exact ⟨⟨L, rfl, Lib.hid ⟨HP.out.1.pop (Own.pop rfl hO) rfl, by omega, HPP.out⟩⟩, Nat.lt_succ_self _⟩
                  · have hb : decide (lev - n < xl) = false := decide_eq_false hgt
                    have HPP : Hid (L ++ [(xt, xl)] = popTo (lev - n) (allTo d.cmds k)) := Lib.hid (by have := HPO.out; rwa [if_neg hgt] at this)
                    clear hgt
                    go_wp2_with fail
                    exact ⟨⟨k + 1, by omega, by go_num, congrArg (Value.int .i64) (by rw [HKL.out]), Lib.hid ⟨by rw [HKA.out, HKO.out, HKL.out, ← HPP.out, ← HLX.out]; have := HP.out.1; rwa [HLL.out] at this, hNE.out (by decide)⟩⟩, by simp [intOf]; omega⟩
            · have q8 : (kind == 8) = false := by rw [beq_eq_false_iff_ne]; exact e8
              have HKA : Hid (allTo d.cmds (k + 1) = allTo d.cmds k) := Lib.hid (by rw [HLA.out, if_neg e4, if_neg e8])
              have HKL : Hid (levelTo d.cmds (k + 1) = levelTo d.cmds k) := Lib.hid (by rw [HLS.out, if_neg e7, if_neg e8])
              by_cases e9 : kind = 9
              · have HLV : Hid (liveLen d.cmds = k) := Lib.hid (live_at HSK.out e9 HRN.out)
                subst e9
                clear k7 k8 e4 e5 e7 e8 q4 q5 q7 q8
                go_wp2_with fail
                go_ret
                refine ⟨_, rfl, ?_, HR1.out.1⟩
                rw [assertedL, HLV.out]
                exact HR1.out.told HO.out
              · have q9 : (kind == 9) = false := by rw [beq_eq_false_iff_ne]; exact e9
                have HN9 := Lib.hid (hNE.out e9)
                clear k7 k8 e4 e5 e7 e8 e9
                go_wp2_with fail
                exact ⟨⟨k + 1, by omega, by go_num, congrArg (Value.int .i64) (by rw [HKL.out]), Lib.hid ⟨by rw [HKA.out, HKO.out]; exact HR1.out, HN9.out⟩⟩, by simp [intOf]; omega⟩
    · obtain rfl : k = d.cmds.length := by omega
      have HLV : Hid (liveLen d.cmds = d.cmds.length) := Lib.hid (live_all HR.out.2)
      clear hlt
      go_wp2_with fail
      go_ret
      refine ⟨_, rfl, ?_, HR.out.1.1⟩
      rw [assertedL, HLV.out]
      exact HR.out.1.told HO.out
end
end Go.Proofs.YtfpmapbimhdafaaGreatDoor
