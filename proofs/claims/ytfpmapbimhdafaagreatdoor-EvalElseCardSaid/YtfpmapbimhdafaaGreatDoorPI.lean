/- Contracts: whether all of a script is more than is looked at. Contracts: whether a model is more than is looked at; products; a script that is loaded. -/
import Derived.Test.YtfpmapbimhdafaaGreatDoorPH
namespace Go.Proofs.YtfpmapbimhdafaaGreatDoor
open Go.RowKit
set_option linter.unusedVariables false
set_option linter.unusedSimpArgs false

/-- What a call gives that says no only where something is. -/
def NoSays (P : Prop) (w : World) (e : Ending) (w' : World) : Prop := ∃ b : Bool, e = .returned (.bool b) ∧ (b = false → P) ∧ Ext NoB w w'
theorem NoSays.yes {P : Prop} {w w' : World} (h : Ext NoB w w') : NoSays P w (.returned (.bool true)) w' := ⟨true, rfl, (fun h => by cases h), h⟩
theorem NoSays.no {P : Prop} {w w' : World} (hp : P) (h : Ext NoB w w') : NoSays P w (.returned (.bool false)) w' := ⟨false, rfl, fun _ => hp, h⟩
def SrtSm (s : Srt) : Prop := s.args.length ≤ 10 ∧ s.name.size ≤ 60
def FunSm (s : Fun) : Prop := s.args.length ≤ 10 ∧ s.name.size ≤ 60
def TermSm (s : Term) : Prop := s.kids.length ≤ 12 ∧ s.num.size ≤ 60
def CmdSm (s : Cmd) : Prop := s.name.size ≤ 60
def FirstAll {α : Type} (P : α → Prop) (l : List α) (k : Nat) : Prop := ∀ x ∈ l.take k, P x
theorem FirstAll.zero {α : Type} (P : α → Prop) (l : List α) : FirstAll P l 0 := fun x hx => by simp at hx
theorem FirstAll.succ {α : Type} {P : α → Prop} {l : List α} {k : Nat} {x : α} (h : FirstAll P l k) (hx : l[k]? = some x) (hp : P x) : FirstAll P l (k + 1) := by
  intro y hy
  rw [take_snoc' hx] at hy
  rcases List.mem_append.1 hy with hy | hy
  · exact h y hy
  · rw [List.mem_singleton.1 hy]
    exact hp
theorem FirstAll.all {α : Type} {P : α → Prop} {l : List α} (h : FirstAll P l l.length) : ∀ x ∈ l, P x := by
  intro x hx
  exact h x (by rwa [List.take_of_length_le (Nat.le_refl _)])
/-- The numbers of the first k are small. -/
def Below150 (xs : List Int) (k : Nat) : Prop := ∀ j, j < k → 0 ≤ rdI xs j ∧ rdI xs j ≤ 150
theorem rdI_set_ne {xs : List Int} {i j : Nat} {v : Int} (h : i ≠ j) : rdI (xs.set i v) j = rdI xs j := by simp [rdI, List.getD_eq_getElem?_getD, List.getElem?_set_ne h]
theorem rdI_set_eq {xs : List Int} {i : Nat} {v : Int} (h : i < xs.length) : rdI (xs.set i v) i = v := by simp [rdI, List.getD_eq_getElem?_getD, List.getElem?_set_self h]
theorem Below150.set {xs : List Int} {k : Nat} {v : Int} (h : Below150 xs k) : Below150 (xs.set k v) k := fun j hj => by
  rw [rdI_set_ne (by omega)]
  exact h j hj

section
variable {w : World}
set_option maxRecDepth 100000 in
set_option maxHeartbeats 8000000 in
theorem c_Great (d : Dump) (vd : Value) (hd : kDump.agg w NoB d vd) : Calls Tryz.prog 8 #[vd] w (NoSays (Small d) w) := by
  obtain ⟨v1, v2, v3, v4, rfl, d1, d2, d3, d4⟩ := dump_open hd
  have D1 := Lib.hid d1
  have D2 := Lib.hid d2
  have D3 := Lib.hid d3
  have D4 := Lib.hid d4
  obtain ⟨A1, n1, hv1, hc1, hm1, _⟩ := Kd.one_slice d1
  obtain ⟨A2, n2, hv2, hc2, hm2, _⟩ := Kd.one_slice d2
  obtain ⟨A3, n3, hv3, hc3, hm3, _⟩ := Kd.one_slice d3
  obtain ⟨A4, n4, hv4, hc4, hm4, _⟩ := Kd.one_slice d4
  subst hv1
  subst hv2
  subst hv3
  subst hv4
  clear hd d1 d2 d3 d4 hm1 hm2 hm3 hm4 hc1 hc2 hc3 hc4
  have hE0 : Ext NoB w (w.alloc (.cells #[.slice A1 d.sorts.length n1, .slice A2 d.funs.length n2, .slice A3 d.terms.length n3, .slice A4 d.cmds.length n4] 27)) := (Ext.refl _ _).alloc _
  have HB0 : Hid (Bq w.heap.size (.slice A1 d.sorts.length n1) (.slice A2 d.funs.length n2) (.slice A3 d.terms.length n3) (.slice A4 d.cmds.length n4) (w.alloc (.cells #[.slice A1 d.sorts.length n1, .slice A2 d.funs.length n2, .slice A3 d.terms.length n3, .slice A4 d.cmds.length n4] 27))) := Lib.hid ⟨by go_simp, by go_simp, by go_simp, by go_simp⟩
  have HE0 := Lib.hid hE0
  clear hE0
  by_cases g1 : 20 < d.sorts.length
  · have q1 : decide (20 < d.sorts.length) = true := decide_eq_true g1
    have q1' : decide ((20 : Int) < (d.sorts.length : Int)) = true := by rw [decide_eq_true_eq]; omega
    go_enter Tryz.func8, Tryz.ntmps8
    go_wp2_with fail
    go_ret
    exact NoSays.yes HE0.out
  have q1' : decide ((20 : Int) < (d.sorts.length : Int)) = false := by rw [decide_eq_false_iff_not]; omega
  by_cases g2 : 40 < d.funs.length
  · have q2' : decide ((40 : Int) < (d.funs.length : Int)) = true := by rw [decide_eq_true_eq]; omega
    go_enter Tryz.func8, Tryz.ntmps8
    go_wp2_with fail
    go_ret
    exact NoSays.yes HE0.out
  have q2' : decide ((40 : Int) < (d.funs.length : Int)) = false := by rw [decide_eq_false_iff_not]; omega
  by_cases g3 : 80 < d.terms.length
  · have q3' : decide ((80 : Int) < (d.terms.length : Int)) = true := by rw [decide_eq_true_eq]; omega
    go_enter Tryz.func8, Tryz.ntmps8
    go_wp2_with fail
    go_ret
    exact NoSays.yes HE0.out
  have q3' : decide ((80 : Int) < (d.terms.length : Int)) = false := by rw [decide_eq_false_iff_not]; omega
  by_cases g4 : 60 < d.cmds.length
  · have q4' : decide ((60 : Int) < (d.cmds.length : Int)) = true := by rw [decide_eq_true_eq]; omega
    go_enter Tryz.func8, Tryz.ntmps8
    go_wp2_with fail
    go_ret
    exact NoSays.yes HE0.out
  have q4' : decide ((60 : Int) < (d.cmds.length : Int)) = false := by rw [decide_eq_false_iff_not]; omega
  go_enter Tryz.func8, Tryz.ntmps8
  go_wp2_with (at_make; (generalize w.alloc (.cells #[.slice A1 d.sorts.length n1, .slice A2 d.funs.length n2, .slice A3 d.terms.length n3, .slice A4 d.cmds.length n4] 27) = w0 at *); refine wpl_makeN kInt rfl (.tmp 38) (.tmp 38) 28 rfl w0.heap.size 3 _ 8 Tryz.underlying28 info_int rfl NoB .i64 .i64 (d.sorts.length : Int) (d.sorts.length : Int) d.sorts.length rfl rfl rfl rfl (by omega) (by omega) (Nat.le_refl _) 0 (fun _ _ => ⟨rfl, by decide⟩) ?_; intro v9 w9 hv9 hO9 hE9; subst hv9; (have HO9 := Lib.hid hO9); (have HE9 := Lib.hid hE9); (obtain ⟨b0, b1, b2, b3⟩ := HB0.out.ext hE9 (fun h => h)); clear hO9 hE9)
  clear b0 b1 b2 b3
  generalize hgn : w0.heap.size = gn at *
  have HGN := Lib.hid hgn
  clear hgn
  go_loopw [43] (fun i wr => ∃ k : Nat, k ≤ d.sorts.length ∧ i = .int .i64 k ∧ ∃ xs, Hid (Ext NoB w0 wr ∧ FirstAll SrtSm d.sorts k) ∧ Hid (Own wr gn 3 kInt NoB (.slice (some ⟨gn, 0, none⟩) d.sorts.length d.sorts.length) xs ∧ xs.length = d.sorts.length ∧ Below150 xs k)) (fun i _ => d.sorts.length - (intOf i).toNat)
  case atStart => exact ⟨0, by omega, rfl, _, Lib.hid ⟨HE9.out, FirstAll.zero _ _⟩, Lib.hid ⟨HO9.out, by simp, fun j hj => by omega⟩⟩
  case round =>
    obtain ⟨k, hk, rfl, xs, HR, HN⟩ := hrel
    obtain ⟨b0, b1, b2, b3⟩ := HB0.out.ext HR.out.1 (fun h => h)
    have HEr := Lib.hid (HE0.out.trans HR.out.1)
    have lb := cell_lt b0
    by_cases hlt : k < d.sorts.length
    · obtain ⟨x, hx⟩ := at_some hlt
      obtain ⟨_, _, hv, _, _, hr⟩ := Kd.one_slice D1.out
      injection hv with hv1 hv2 hv3
      subst hv1
      clear hv2 hv3
      obtain ⟨rb, ro, hA, _, hrow⟩ := hr (ne_nil_of_lt hlt)
      subst hA
      obtain ⟨Ka, ka, ⟨x0, x1⟩, hargs, _⟩ := row_srt hrow hx
      replace x0 := HEr.out.cell x0 (fun h => h)
      replace x1 := HEr.out.cell x1 (fun h => h)
      have HARG := Lib.hid hargs
      have lx := cell_lt x0
      have HXX := Lib.hid hx
      have hE1 : Ext NoB wr (wr.alloc (.cells #[.string x.name, .slice Ka x.args.length ka] 74)) := (Ext.refl _ _).alloc _
      have HE1 := Lib.hid hE1
      have hHN := HN.out.1.ext hE1
      have hkx : k < xs.length := by rw [HN.out.2.1]; exact hlt
      obtain ⟨y0, _⟩ := HN.out.1.int_at hkx
      have f0 := HN.out.1.frozenAt k
      have HS1 := Lib.hid (HN.out.1.set1 rfl (j := k) hkx (x := 1) (u := .int .i64 1) ⟨rfl, by decide⟩)
      have ly := cell_lt y0
      clear hr hrow hx hE1 hargs hHN
      by_cases h1 : 10 < x.args.length
      · have q : decide ((10 : Int) < (x.args.length : Int)) = true := by rw [decide_eq_true_eq]; omega
        have q' : decide (10 < x.args.length) = true := decide_eq_true h1
        go_wp2_with fail
        go_ret
        exact NoSays.yes (HEr.out.trans HE1.out)
      have qh1 : decide ((10 : Int) < (x.args.length : Int)) = false := by rw [decide_eq_false_iff_not]; omega
      have qh1' : decide (10 < x.args.length) = false := decide_eq_false h1
      by_cases h2 : 60 < x.name.size
      · have q : decide ((60 : Int) < (x.name.size : Int)) = true := by rw [decide_eq_true_eq]; omega
        have q' : decide (60 < x.name.size) = true := decide_eq_true h2
        go_wp2_with fail
        go_ret
        exact NoSays.yes (HEr.out.trans HE1.out)
      have qh2 : decide ((60 : Int) < (x.name.size : Int)) = false := by rw [decide_eq_false_iff_not]; omega
      have qh2' : decide (60 < x.name.size) = false := decide_eq_false h2
      go_wp2_with fail
      have HE2 : Hid (Ext NoB w0 ((wr.setCell ⟨gn, k, none⟩ (.int .i64 1)).alloc (.cells #[.string x.name, .slice Ka x.args.length ka] 74))) := Lib.hid ((HR.out.1.setNew (p := ⟨gn, k, none⟩) (by rw [HGN.out]; exact Nat.le_refl _) _).alloc _)
      have HO2 : Hid (Own ((wr.setCell ⟨gn, k, none⟩ (.int .i64 1)).alloc (.cells #[.string x.name, .slice Ka x.args.length ka] 74)) gn 3 kInt NoB (.slice (some ⟨gn, 0, none⟩) d.sorts.length d.sorts.length) (xs.set k 1)) := Lib.hid (HS1.out.1.ext ((Ext.refl NoB _).alloc _))
      have HY2 : Hid ((xs.set k 1).length = d.sorts.length ∧ Below150 (xs.set k 1) k ∧ rdI (xs.set k 1) k = 1) := Lib.hid ⟨by rw [List.length_set]; exact HN.out.2.1, HN.out.2.2.set, rdI_set_eq hkx⟩
      clear x0 x1 y0 f0 lx ly
      generalize (wr.setCell ⟨gn, k, none⟩ (.int .i64 1)).alloc (.cells #[.string x.name, .slice Ka x.args.length ka] 74) = w2 at *
      go_loopw [64] (fun i wq => ∃ j : Nat, j ≤ x.args.length ∧ i = .int .i64 j ∧ ∃ ys, Hid (Ext NoB w0 wq) ∧ Hid (Own wq gn 3 kInt NoB (.slice (some ⟨gn, 0, none⟩) d.sorts.length d.sorts.length) ys ∧ ys.length = d.sorts.length ∧ Below150 ys k ∧ 1 ≤ rdI ys k ∧ rdI ys k ≤ 1 + 150 * (j : Int))) (fun i _ => x.args.length - (intOf i).toNat)
      case atStart => exact ⟨0, by omega, rfl, _, HE2, Lib.hid ⟨HO2.out, HY2.out.1, HY2.out.2.1, by rw [HY2.out.2.2]; omega, by rw [HY2.out.2.2]; omega⟩⟩
      case round =>
        obtain ⟨j, hj, rfl, ys, HQE, HQ⟩ := hrel
        have hky : k < ys.length := by rw [HQ.out.2.1]; exact hlt
        obtain ⟨yk, hwk⟩ := HQ.out.1.int_at hky
        have lyk := cell_lt yk
        by_cases hja : j < x.args.length
        · obtain ⟨_, _, hv, _, _, hr⟩ := Kd.one_slice (kInts.oneExt HARG.out (HE0.out.trans HQE.out))
          injection hv with hv1 hv2 hv3
          subst hv1
          clear hv2 hv3
          obtain ⟨kb, ko, hA, _, ak, _⟩ := ints_at hr hja
          subst hA
          have lak := cell_lt ak
          have hkb0 := HQ.out.2.2.2.1
          have hkb1 := HQ.out.2.2.2.2
          clear hr
          by_cases ha0 : 0 ≤ rdI x.args j
          · have p0 : decide (0 ≤ rdI x.args j) = true := decide_eq_true ha0
            by_cases hak : rdI x.args j < (k : Int)
            · have p1 : decide (rdI x.args j < (k : Int)) = true := decide_eq_true hak
              obtain ⟨a, haa⟩ : ∃ a : Nat, rdI x.args j = (a : Int) := ⟨(rdI x.args j).toNat, (Int.toNat_of_nonneg ha0).symm⟩
              rw [haa] at ak p0 p1 ha0 hak
              have haj : a < k := by omega
              have hay : a < ys.length := by omega
              obtain ⟨ya, _⟩ := HQ.out.1.int_at hay
              obtain ⟨hya0, hya1⟩ := HQ.out.2.2.1 a haj
              have f0 := HQ.out.1.frozenAt k
              have hwr : IntKind.i64.wrap (rdI ys k + rdI ys a) = rdI ys k + rdI ys a := IntWalk.i64_in _ (by omega)
              have HST : Hid (wr.drew.cell? ⟨gn, k, none⟩ = some (.int .i64 (rdI ys k)) ∧ wr.drew.cell? ⟨gn, a, none⟩ = some (.int .i64 (rdI ys a))) := Lib.hid ⟨yk, ya⟩
              have HSET := Lib.hid ((HQ.out.1.ext (Ext.refl NoB wr).drew).set1 rfl (j := k) hky (x := rdI ys k + rdI ys a) (u := .int .i64 (rdI ys k + rdI ys a)) ⟨rfl, wf_i (by omega) (by omega)⟩)
              have jb0 : (0 : Int) ≤ (a : Int) := by omega
              have jb1 : (a : Int) < (d.sorts.length : Int) := by omega
              have jb2 : (0 : Int) ≤ (k : Int) := by omega
              have jb3 : (k : Int) < (d.sorts.length : Int) := by omega
              have p1' : decide (a < k) = true := decide_eq_true haj
              have HY3 : Hid ((ys.set k (rdI ys k + rdI ys a)).length = d.sorts.length ∧ Below150 (ys.set k (rdI ys k + rdI ys a)) k ∧ rdI (ys.set k (rdI ys k + rdI ys a)) k = rdI ys k + rdI ys a) := Lib.hid ⟨by rw [List.length_set]; exact HQ.out.2.1, HQ.out.2.2.1.set, rdI_set_eq hky⟩
              have HAA := Lib.hid haa
              clear haa
              go_wp2_with fail
              clear hwr
              have hwr : IntKind.i64.wrap (rdI ys k + rdI ys a) = rdI ys k + rdI ys a := IntWalk.i64_in _ (by omega)
              refine wpM_begin (fun W => W.cell? ⟨gn, k, none⟩ = some (.int .i64 (rdI ys k)) ∧ W.cell? ⟨gn, a, none⟩ = some (.int .i64 (rdI ys a))) [10] [0, 1, 2, 3, 4, 5, 6, 7, 8, 9] (by kernel_rfl) (by kernel_rfl) (HST.out) (fun hS0 hA => ?_)
              refine wpM_free 0 rfl (by kernel_rfl) rfl (by intro w; go_simp; try rfl) ?_; (try simp only [Act.put, List.setIfInBounds_toArray, List.set_cons_zero, List.set_cons_succ])
              refine wpM_free 1 rfl (by kernel_rfl) rfl (by intro w; go_simp; try rfl) ?_; (try simp only [Act.put, List.setIfInBounds_toArray, List.set_cons_zero, List.set_cons_succ])
              refine wpM_free 2 rfl (by kernel_rfl) rfl (by intro w; go_simp; try rfl) ?_; (try simp only [Act.put, List.setIfInBounds_toArray, List.set_cons_zero, List.set_cons_succ])
              refine wpM_take 3 hA hS0 rfl (by kernel_rfl) rfl (by intro w hs; (try dsimp only at hs); go_simp; try rfl) ?_; (try simp only [Act.put, List.setIfInBounds_toArray, List.set_cons_zero, List.set_cons_succ])
              refine wpM_free 4 rfl (by kernel_rfl) rfl (by intro w; go_simp; try rfl) ?_; (try simp only [Act.put, List.setIfInBounds_toArray, List.set_cons_zero, List.set_cons_succ])
              refine wpM_free 5 rfl (by kernel_rfl) rfl (by intro w; go_simp; try rfl) ?_; (try simp only [Act.put, List.setIfInBounds_toArray, List.set_cons_zero, List.set_cons_succ])
              refine wpM_free 6 rfl (by kernel_rfl) rfl (by intro w; go_simp; try rfl) ?_; (try simp only [Act.put, List.setIfInBounds_toArray, List.set_cons_zero, List.set_cons_succ])
              refine wpM_take 7 hA hS0 rfl (by kernel_rfl) rfl (by intro w hs; (try dsimp only at hs); go_simp; try rfl) ?_; (try simp only [Act.put, List.setIfInBounds_toArray, List.set_cons_zero, List.set_cons_succ])
              refine wpM_free 8 rfl (by kernel_rfl) rfl (by intro w; go_simp; try rfl) ?_; (try simp only [Act.put, List.setIfInBounds_toArray, List.set_cons_zero, List.set_cons_succ])
              refine wpM_free 9 rfl (by kernel_rfl) rfl (by intro w; go_simp; try rfl) ?_; (try simp only [Act.put, List.setIfInBounds_toArray, List.set_cons_zero, List.set_cons_succ])
              refine wpM_last 10 rfl (by kernel_rfl) (by decide) (fun K hK => ?_)
              go_simp
              refine hK.out _ _ ?_
              clear hK K; (try simp only [Act.put, List.setIfInBounds_toArray, List.set_cons_zero, List.set_cons_succ])
              refine wpM_done (by kernel_rfl) ?_
              clear hwr
              go_wp2_with fail
              exact ⟨⟨j + 1, by omega, by go_num, _, Lib.hid ((HQE.out.drew).setNew (p := ⟨gn, k, none⟩) (by rw [HGN.out]; exact Nat.le_refl _) _), Lib.hid ⟨HSET.out.1, HY3.out.1, HY3.out.2.1, by rw [HY3.out.2.2]; omega, by rw [HY3.out.2.2]; omega⟩⟩, by simp [intOf]; omega⟩
            · have p1 : decide (rdI x.args j < (k : Int)) = false := decide_eq_false hak
              go_wp2_with fail
              exact ⟨⟨j + 1, by omega, by go_num, ys, HQE, Lib.hid ⟨HQ.out.1, HQ.out.2.1, HQ.out.2.2.1, hkb0, by omega⟩⟩, by simp [intOf]; omega⟩
          · have p0 : decide (0 ≤ rdI x.args j) = false := decide_eq_false ha0
            go_wp2_with fail
            exact ⟨⟨j + 1, by omega, by go_num, ys, HQE, Lib.hid ⟨HQ.out.1, HQ.out.2.1, HQ.out.2.2.1, hkb0, by omega⟩⟩, by simp [intOf]; omega⟩
        · by_cases hbig : 150 < rdI ys k
          · have p0 : decide (150 < rdI ys k) = true := decide_eq_true hbig
            go_wp2_with fail
            go_ret
            exact NoSays.yes (HE0.out.trans HQE.out)
          · have p0 : decide (150 < rdI ys k) = false := decide_eq_false hbig
            have hkb0 := HQ.out.2.2.2.1
            have HB15 : Hid (Below150 ys (k + 1)) := Lib.hid (fun i hi => by
              rcases Nat.lt_or_ge i k with h | h
              · exact HQ.out.2.2.1 i h
              · obtain rfl : i = k := by omega
                exact ⟨by omega, by omega⟩)
            go_wp2_with fail
            exact ⟨⟨k + 1, by omega, by go_num, ys, Lib.hid ⟨HQE.out, HR.out.2.succ HXX.out ⟨by omega, by omega⟩⟩, Lib.hid ⟨HQ.out.1, HQ.out.2.1, HB15.out⟩⟩, by simp [intOf]; omega⟩
    · obtain rfl : k = d.sorts.length := by omega
      have HFS := Lib.hid HR.out.2.all
      have HX := Lib.hid HR.out.1
      clear hlt HR HN
      go_wp2_with fail
      clear b0 b1 b2 b3 lb
      go_loopw [95] (fun i wr => ∃ k : Nat, k ≤ d.funs.length ∧ i = .int .i64 k ∧ Hid (Ext NoB w0 wr ∧ FirstAll FunSm d.funs k)) (fun i _ => d.funs.length - (intOf i).toNat)
      case atStart => exact ⟨0, by omega, rfl, Lib.hid ⟨HX.out, FirstAll.zero _ _⟩⟩
      case round =>
        clear HX
        obtain ⟨k, hk, rfl, HR⟩ := hrel
        obtain ⟨b0, b1, b2, b3⟩ := HB0.out.ext HR.out.1 (fun h => h)
        have HEr := Lib.hid (HE0.out.trans HR.out.1)
        have lb := cell_lt b0
        by_cases hlt : k < d.funs.length
        · obtain ⟨x, hx⟩ := at_some hlt
          obtain ⟨_, _, hv, _, _, hr⟩ := Kd.one_slice (kFuns.oneExt D2.out HEr.out)
          injection hv with hv1 hv2 hv3
          subst hv1
          clear hv2 hv3
          obtain ⟨rb, ro, hA, _, hrow⟩ := hr (ne_nil_of_lt hlt)
          subst hA
          obtain ⟨Ka, ka, ⟨x0, x1, x2⟩, _⟩ := row_fun hrow hx
          have lx := cell_lt x0
          have HXX := Lib.hid hx
          have hE1 : Ext NoB wr (wr.alloc (.cells #[.string x.name, .slice Ka x.args.length ka, .int .i64 x.result] 71)) := (Ext.refl _ _).alloc _
          have HE1 := Lib.hid hE1
          clear hr hrow hx hE1
          by_cases h1 : 10 < x.args.length
          · have q : decide ((10 : Int) < (x.args.length : Int)) = true := by rw [decide_eq_true_eq]; omega
            have q' : decide (10 < x.args.length) = true := decide_eq_true h1
            go_wp2_with fail
            go_ret
            exact NoSays.yes (HEr.out.trans HE1.out)
          have qh1 : decide ((10 : Int) < (x.args.length : Int)) = false := by rw [decide_eq_false_iff_not]; omega
          have qh1' : decide (10 < x.args.length) = false := decide_eq_false h1
          by_cases h2 : 60 < x.name.size
          · have q : decide ((60 : Int) < (x.name.size : Int)) = true := by rw [decide_eq_true_eq]; omega
            have q' : decide (60 < x.name.size) = true := decide_eq_true h2
            go_wp2_with fail
            go_ret
            exact NoSays.yes (HEr.out.trans HE1.out)
          have qh2 : decide ((60 : Int) < (x.name.size : Int)) = false := by rw [decide_eq_false_iff_not]; omega
          have qh2' : decide (60 < x.name.size) = false := decide_eq_false h2
          go_wp2_with fail
          exact ⟨⟨k + 1, by omega, by go_num, Lib.hid ⟨HR.out.1.trans HE1.out, HR.out.2.succ HXX.out ⟨by omega, by omega⟩⟩⟩, by simp [intOf]; omega⟩
        · obtain rfl : k = d.funs.length := by omega
          have HFF := Lib.hid HR.out.2.all
          have HX := Lib.hid HR.out.1
          clear hlt HR
          go_wp2_with fail
          clear b0 b1 b2 b3 lb
          go_loopw [113] (fun i wr => ∃ k : Nat, k ≤ d.terms.length ∧ i = .int .i64 k ∧ Hid (Ext NoB w0 wr ∧ FirstAll TermSm d.terms k)) (fun i _ => d.terms.length - (intOf i).toNat)
          case atStart => exact ⟨0, by omega, rfl, Lib.hid ⟨HX.out, FirstAll.zero _ _⟩⟩
          case round =>
            clear HX
            obtain ⟨k, hk, rfl, HR⟩ := hrel
            obtain ⟨b0, b1, b2, b3⟩ := HB0.out.ext HR.out.1 (fun h => h)
            have HEr := Lib.hid (HE0.out.trans HR.out.1)
            have lb := cell_lt b0
            by_cases hlt : k < d.terms.length
            · obtain ⟨x, hx⟩ := at_some hlt
              obtain ⟨_, _, hv, _, _, hr⟩ := Kd.one_slice (kTerms.oneExt D3.out HEr.out)
              injection hv with hv1 hv2 hv3
              subst hv1
              clear hv2 hv3
              obtain ⟨rb, ro, hA, _, hrow⟩ := hr (ne_nil_of_lt hlt)
              subst hA
              obtain ⟨Ka, ka, ⟨x0, x1, x2, x3⟩, _⟩ := row_term hrow hx
              have lx := cell_lt x0
              have HXX := Lib.hid hx
              have hE1 : Ext NoB wr (wr.alloc (.cells #[.int .i64 x.op, .int .i64 x.fn, .slice Ka x.kids.length ka, .string x.num] 63)) := (Ext.refl _ _).alloc _
              have HE1 := Lib.hid hE1
              clear hr hrow hx hE1
              by_cases h1 : 12 < x.kids.length
              · have q : decide ((12 : Int) < (x.kids.length : Int)) = true := by rw [decide_eq_true_eq]; omega
                have q' : decide (12 < x.kids.length) = true := decide_eq_true h1
                go_wp2_with fail
                go_ret
                exact NoSays.yes (HEr.out.trans HE1.out)
              have qh1 : decide ((12 : Int) < (x.kids.length : Int)) = false := by rw [decide_eq_false_iff_not]; omega
              have qh1' : decide (12 < x.kids.length) = false := decide_eq_false h1
              by_cases h2 : 60 < x.num.size
              · have q : decide ((60 : Int) < (x.num.size : Int)) = true := by rw [decide_eq_true_eq]; omega
                have q' : decide (60 < x.num.size) = true := decide_eq_true h2
                go_wp2_with fail
                go_ret
                exact NoSays.yes (HEr.out.trans HE1.out)
              have qh2 : decide ((60 : Int) < (x.num.size : Int)) = false := by rw [decide_eq_false_iff_not]; omega
              have qh2' : decide (60 < x.num.size) = false := decide_eq_false h2
              go_wp2_with fail
              exact ⟨⟨k + 1, by omega, by go_num, Lib.hid ⟨HR.out.1.trans HE1.out, HR.out.2.succ HXX.out ⟨by omega, by omega⟩⟩⟩, by simp [intOf]; omega⟩
            · obtain rfl : k = d.terms.length := by omega
              have HFT := Lib.hid HR.out.2.all
              have HX := Lib.hid HR.out.1
              clear hlt HR
              go_wp2_with fail
              clear b0 b1 b2 b3 lb
              go_loopw [131] (fun i wr => ∃ k : Nat, k ≤ d.cmds.length ∧ i = .int .i64 k ∧ Hid (Ext NoB w0 wr ∧ FirstAll CmdSm d.cmds k)) (fun i _ => d.cmds.length - (intOf i).toNat)
              case atStart => exact ⟨0, by omega, rfl, Lib.hid ⟨HX.out, FirstAll.zero _ _⟩⟩
              case round =>
                clear HX
                obtain ⟨k, hk, rfl, HR⟩ := hrel
                obtain ⟨b0, b1, b2, b3⟩ := HB0.out.ext HR.out.1 (fun h => h)
                have HEr := Lib.hid (HE0.out.trans HR.out.1)
                have lb := cell_lt b0
                by_cases hlt : k < d.cmds.length
                · obtain ⟨x, hx⟩ := at_some hlt
                  obtain ⟨_, _, hv, _, _, hr⟩ := Kd.one_slice (kCmds.oneExt D4.out HEr.out)
                  injection hv with hv1 hv2 hv3
                  subst hv1
                  clear hv2 hv3
                  obtain ⟨rb, ro, hA, _, hrow⟩ := hr (ne_nil_of_lt hlt)
                  subst hA
                  obtain ⟨⟨x0, x1, x2, x3, x4⟩, _⟩ := row_cmd hrow hx
                  have lx := cell_lt x0
                  have HXX := Lib.hid hx
                  have hE1 : Ext NoB wr (wr.alloc (.cells #[.int .i64 x.kind, .int .i64 x.n, .string x.name, .int .i64 x.fn, .int .i64 x.term] 76)) := (Ext.refl _ _).alloc _
                  have HE1 := Lib.hid hE1
                  clear hr hrow hx hE1
                  by_cases h1 : 60 < x.name.size
                  · have q : decide ((60 : Int) < (x.name.size : Int)) = true := by rw [decide_eq_true_eq]; omega
                    have q' : decide (60 < x.name.size) = true := decide_eq_true h1
                    go_wp2_with fail
                    go_ret
                    exact NoSays.yes (HEr.out.trans HE1.out)
                  have qh1 : decide ((60 : Int) < (x.name.size : Int)) = false := by rw [decide_eq_false_iff_not]; omega
                  have qh1' : decide (60 < x.name.size) = false := decide_eq_false h1
                  go_wp2_with fail
                  exact ⟨⟨k + 1, by omega, by go_num, Lib.hid ⟨HR.out.1.trans HE1.out, HR.out.2.succ HXX.out (by show x.name.size ≤ 60; omega)⟩⟩, by simp [intOf]; omega⟩
                · obtain rfl : k = d.cmds.length := by omega
                  have HFC := Lib.hid HR.out.2.all
                  have HX := Lib.hid HR.out.1
                  clear hlt HR
                  go_wp2_with fail
                  go_ret
                  exact NoSays.no ⟨by omega, by omega, by omega, by omega, HFS.out, HFF.out, HFT.out, HFC.out⟩ (HE0.out.trans HX.out)
end
end Go.Proofs.YtfpmapbimhdafaaGreatDoor

namespace Go.Proofs.YtfpmapbimhdafaaGreatDoor
open Go.RowKit
set_option linter.unusedVariables false
set_option linter.unusedSimpArgs false

theorem row_table' {w : World} {O : Nat → Prop} {b off : Nat} {xs : List Table} (h : kTable.row w O b off xs) {i : Nat} {x : Table} (hx : xs[i]? = some x) :
    ∃ A c B d, (w.cell? ⟨b, off + i * 3, none⟩ = some (.slice A x.rows.length c) ∧ w.cell? ⟨b, off + i * 3 + 1, none⟩ = some (.bool x.els.neg) ∧ w.cell? ⟨b, off + i * 3 + 2, none⟩ = some (.slice B x.els.digs.length d)) ∧
      kRows.one w O x.rows (.slice A x.rows.length c) ∧ kDigs.one w O x.els.digs (.slice B x.els.digs.length d) := by
  obtain ⟨cs, hrep, hc⟩ := h i x hx
  obtain ⟨v1, v2, rfl, h1, h2⟩ := kTable_iff.1 hrep
  have h1' := h1
  have h2' := h2
  obtain ⟨A, c, rfl, _⟩ := Kd.one_slice h1'
  obtain ⟨B, d, rfl, _⟩ := Kd.one_slice h2'
  exact ⟨A, c, B, d, ⟨hc 0 _ rfl, hc 1 _ rfl, hc 2 _ rfl⟩, h1, h2⟩
def ZLen (x : ZInt) : Prop := x.digs.length ≤ 3
def RowLen (r : TRow) : Prop := r.args.length ≤ 12 ∧ ZLen r.value ∧ ∀ x ∈ r.args, ZLen x
def TabLen (t : Table) : Prop := t.rows.length ≤ 20 ∧ ZLen t.els ∧ ∀ r ∈ t.rows, RowLen r
def ModLen (m : Model) : Prop := m.sizes.length ≤ 30 ∧ m.funs.length ≤ 50 ∧ ∀ t ∈ m.funs, TabLen t

section
variable {w : World}
set_option maxRecDepth 100000 in
set_option maxHeartbeats 8000000 in
theorem c_Odd (m : Model) (vm : Value) (hm : kModel.agg w NoB m vm) : Calls Tryz.prog 10 #[vm] w (NoSays (ModLen m) w) := by
  obtain ⟨A1, c1, A2, c2, rfl, _, htb⟩ := model_open hm
  have HTB := Lib.hid htb
  have hE0 : Ext NoB w (w.alloc (.cells #[.slice A1 m.sizes.length c1, .slice A2 m.funs.length c2] 31)) := (Ext.refl _ _).alloc _
  have HE0 := Lib.hid hE0
  clear hE0 hm htb
  by_cases g1 : 30 < m.sizes.length
  · have q1 : decide ((30 : Int) < (m.sizes.length : Int)) = true := by rw [decide_eq_true_eq]; omega
    go_enter Tryz.func10, Tryz.ntmps10
    go_wp2_with fail
    go_ret
    exact NoSays.yes HE0.out
  have q1 : decide ((30 : Int) < (m.sizes.length : Int)) = false := by rw [decide_eq_false_iff_not]; omega
  by_cases g2 : 50 < m.funs.length
  · have q2 : decide ((50 : Int) < (m.funs.length : Int)) = true := by rw [decide_eq_true_eq]; omega
    go_enter Tryz.func10, Tryz.ntmps10
    go_wp2_with fail
    go_ret
    exact NoSays.yes HE0.out
  have q2 : decide ((50 : Int) < (m.funs.length : Int)) = false := by rw [decide_eq_false_iff_not]; omega
  go_enter Tryz.func10, Tryz.ntmps10
  go_wp2_with fail
  generalize w.alloc (.cells #[.slice A1 m.sizes.length c1, .slice A2 m.funs.length c2] 31) = w0 at *
  go_loopw [22] (fun i wr => ∃ k : Nat, k ≤ m.funs.length ∧ i = .int .i64 k ∧ Hid (Ext NoB w wr ∧ FirstAll TabLen m.funs k)) (fun i _ => m.funs.length - (intOf i).toNat)
  case atStart => exact ⟨0, by omega, rfl, Lib.hid ⟨HE0.out, FirstAll.zero _ _⟩⟩
  case round =>
    obtain ⟨k, hk, rfl, HR⟩ := hrel
    by_cases hlt : k < m.funs.length
    · obtain ⟨t, ht⟩ := at_some hlt
      obtain ⟨_, _, hv, _, _, hr⟩ := Kd.one_slice (kTables.oneExt HTB.out HR.out.1)
      injection hv with hv1 hv2 hv3
      subst hv1
      clear hv2 hv3
      obtain ⟨rb, ro, hA, _, hrow⟩ := hr (ne_nil_of_lt hlt)
      subst hA
      obtain ⟨Ta, ta, Te, te, ⟨x0, x1, x2⟩, hrows, _⟩ := row_table' hrow ht
      have hml : t.rows.length ≤ 9223372036854775807 := by
        obtain ⟨_, _, _, h1, h2, _⟩ := Kd.one_slice hrows
        unfold maxLen at h2
        omega
      have HROWS := Lib.hid hrows
      have HT := Lib.hid ht
      have lx := cell_lt x0
      have hE1 : Ext NoB wr (wr.alloc (.cells #[.slice Ta t.rows.length ta, .bool t.els.neg, .slice Te t.els.digs.length te] 58)) := (Ext.refl _ _).alloc _
      have HE1 := Lib.hid hE1
      clear hr hrow ht hrows hE1
      by_cases h1 : 20 < t.rows.length
      · have q : decide ((20 : Int) < (t.rows.length : Int)) = true := by rw [decide_eq_true_eq]; omega
        have q' : decide (20 < t.rows.length) = true := decide_eq_true h1
        go_wp2_with fail
        go_ret
        exact NoSays.yes (HR.out.1.trans HE1.out)
      have qh1 : decide ((20 : Int) < (t.rows.length : Int)) = false := by rw [decide_eq_false_iff_not]; omega
      have qh1' : decide (20 < t.rows.length) = false := decide_eq_false h1
      by_cases h2 : 3 < t.els.digs.length
      · have q : decide ((3 : Int) < (t.els.digs.length : Int)) = true := by rw [decide_eq_true_eq]; omega
        have q' : decide (3 < t.els.digs.length) = true := decide_eq_true h2
        go_wp2_with fail
        go_ret
        exact NoSays.yes (HR.out.1.trans HE1.out)
      have qh2 : decide ((3 : Int) < (t.els.digs.length : Int)) = false := by rw [decide_eq_false_iff_not]; omega
      have qh2' : decide (3 < t.els.digs.length) = false := decide_eq_false h2
      go_wp2_with fail
      clear x0 x1 x2 lx
      generalize wr.alloc (.cells #[.slice Ta t.rows.length ta, .bool t.els.neg, .slice Te t.els.digs.length te] 58) = w1 at *
      go_loopw [40] (fun i wq => ∃ j : Nat, j ≤ t.rows.length ∧ i = .int .i64 j ∧ Hid (Ext NoB wr wq ∧ FirstAll RowLen t.rows j)) (fun i _ => t.rows.length - (intOf i).toNat)
      case atStart => exact ⟨0, by omega, rfl, Lib.hid ⟨HE1.out, FirstAll.zero _ _⟩⟩
      case round =>
        obtain ⟨j, hj, rfl, HQ⟩ := hrel
        by_cases hja : j < t.rows.length
        · obtain ⟨r, hr'⟩ := at_some hja
          obtain ⟨_, _, hv, _, _, hr⟩ := Kd.one_slice (kRows.oneExt HROWS.out HQ.out.1)
          injection hv with hv1 hv2 hv3
          subst hv1
          clear hv2 hv3
          obtain ⟨sb, so, hA, _, hrow⟩ := hr (ne_nil_of_lt hja)
          subst hA
          obtain ⟨Ra, ra, Rv, rv, ⟨y0, y1, y2⟩, hargs, _⟩ := row_row hrow hr'
          have hmr : r.args.length ≤ 9223372036854775807 := by
            obtain ⟨_, _, _, h1, h2, _⟩ := Kd.one_slice hargs
            unfold maxLen at h2
            omega
          have HARGS := Lib.hid hargs
          have HRR := Lib.hid hr'
          have ly := cell_lt y0
          have hE2 : Ext NoB wr (wr.alloc (.cells #[.slice Ra r.args.length ra, .bool r.value.neg, .slice Rv r.value.digs.length rv] 60)) := (Ext.refl _ _).alloc _
          have HE2 := Lib.hid hE2
          clear hr hrow hr' hargs hE2
          by_cases h3 : 12 < r.args.length
          · have q : decide ((12 : Int) < (r.args.length : Int)) = true := by rw [decide_eq_true_eq]; omega
            have q' : decide (12 < r.args.length) = true := decide_eq_true h3
            go_wp2_with fail
            go_ret
            exact NoSays.yes (HR.out.1.trans (HQ.out.1.trans HE2.out))
          have qh3 : decide ((12 : Int) < (r.args.length : Int)) = false := by rw [decide_eq_false_iff_not]; omega
          have qh3' : decide (12 < r.args.length) = false := decide_eq_false h3
          by_cases h4 : 3 < r.value.digs.length
          · have q : decide ((3 : Int) < (r.value.digs.length : Int)) = true := by rw [decide_eq_true_eq]; omega
            have q' : decide (3 < r.value.digs.length) = true := decide_eq_true h4
            go_wp2_with fail
            go_ret
            exact NoSays.yes (HR.out.1.trans (HQ.out.1.trans HE2.out))
          have qh4 : decide ((3 : Int) < (r.value.digs.length : Int)) = false := by rw [decide_eq_false_iff_not]; omega
          have qh4' : decide (3 < r.value.digs.length) = false := decide_eq_false h4
          go_wp2_with fail
          clear y0 y1 y2 ly
          generalize wr.alloc (.cells #[.slice Ra r.args.length ra, .bool r.value.neg, .slice Rv r.value.digs.length rv] 60) = w2 at *
          go_loopw [58] (fun i wz => ∃ n : Nat, n ≤ r.args.length ∧ i = .int .i64 n ∧ Hid (Ext NoB wr wz ∧ FirstAll ZLen r.args n)) (fun i _ => r.args.length - (intOf i).toNat)
          case atStart => exact ⟨0, by omega, rfl, Lib.hid ⟨HE2.out, FirstAll.zero _ _⟩⟩
          case round =>
            obtain ⟨n, hn, rfl, HZ⟩ := hrel
            have HALL := Lib.hid (HR.out.1.trans (HQ.out.1.trans HZ.out.1))
            by_cases hna : n < r.args.length
            · obtain ⟨z, hz⟩ := at_some hna
              obtain ⟨_, _, hv, _, _, hr⟩ := Kd.one_slice (kZs.oneExt HARGS.out HZ.out.1)
              injection hv with hv1 hv2 hv3
              subst hv1
              clear hv2 hv3
              obtain ⟨zb, zo, hA, _, hrow⟩ := hr (ne_nil_of_lt hna)
              subst hA
              obtain ⟨Az, az, ⟨z0, z1⟩, _⟩ := row_z hrow hz
              have HZZ := Lib.hid hz
              have lz := cell_lt z0
              have hE3 : Ext NoB wr (wr.alloc (.cells #[.bool z.neg, .slice Az z.digs.length az] 50)) := (Ext.refl _ _).alloc _
              have HE3 := Lib.hid hE3
              clear hr hrow hz hE3
              by_cases h5 : 3 < z.digs.length
              · have q : decide ((3 : Int) < (z.digs.length : Int)) = true := by rw [decide_eq_true_eq]; omega
                have q' : decide (3 < z.digs.length) = true := decide_eq_true h5
                go_wp2_with fail
                go_ret
                exact NoSays.yes (HALL.out.trans HE3.out)
              have qh5 : decide ((3 : Int) < (z.digs.length : Int)) = false := by rw [decide_eq_false_iff_not]; omega
              have qh5' : decide (3 < z.digs.length) = false := decide_eq_false h5
              go_wp2_with fail
              exact ⟨⟨n + 1, by omega, by go_num, Lib.hid ⟨HZ.out.1.trans HE3.out, HZ.out.2.succ HZZ.out (by show z.digs.length ≤ 3; omega)⟩⟩, by simp [intOf]; omega⟩
            · obtain rfl : n = r.args.length := by omega
              have HRL : Hid (RowLen r) := Lib.hid ⟨by omega, by show r.value.digs.length ≤ 3; omega, HZ.out.2.all⟩
              clear hna
              go_wp2_with fail
              exact ⟨⟨j + 1, by omega, by go_num, Lib.hid ⟨HQ.out.1.trans HZ.out.1, HQ.out.2.succ HRR.out HRL.out⟩⟩, by simp [intOf]; omega⟩
        · obtain rfl : j = t.rows.length := by omega
          have HTL : Hid (TabLen t) := Lib.hid ⟨by omega, by show t.els.digs.length ≤ 3; omega, HQ.out.2.all⟩
          clear hja
          go_wp2_with fail
          exact ⟨⟨k + 1, by omega, by go_num, Lib.hid ⟨HR.out.1.trans HQ.out.1, HR.out.2.succ HT.out HTL.out⟩⟩, by simp [intOf]; omega⟩
    · obtain rfl : k = m.funs.length := by omega
      clear hlt
      go_wp2_with fail
      go_ret
      exact NoSays.no ⟨by omega, by omega, HR.out.2.all⟩ HR.out.1

set_option maxRecDepth 100000 in
set_option maxHeartbeats 2000000 in
theorem c_Wild (d : Dump) (vd : Value) (hd : kDump.agg w NoB d vd) (hs : Small d) : Calls Tryz.prog 11 #[vd] w (NoSays (mulTo d.terms d.terms.length ≤ 20) w) := by
  obtain ⟨v1, v2, v3, v4, rfl, _, _, d3, _⟩ := dump_open hd
  have D3 := Lib.hid d3
  obtain ⟨A3, n3, hv3, _, _, _⟩ := Kd.one_slice d3
  subst hv3
  have hnt := hs.nt
  have HS := Lib.hid hs
  have HE0 : Hid (Ext NoB w (w.alloc (.cells #[v1, v2, .slice A3 d.terms.length n3, v4] 27))) := Lib.hid ((Ext.refl _ _).alloc _)
  clear hd d3 hs
  go_enter Tryz.func11, Tryz.ntmps11
  go_wp2_with fail
  generalize w.alloc (.cells #[v1, v2, .slice A3 d.terms.length n3, v4] 27) = w0 at *
  go_loopw [3, 9] (fun u i wr => ∃ k : Nat, k ≤ d.terms.length ∧ i = .int .i64 k ∧ u = .int .i64 ((mulTo d.terms k : Nat) : Int) ∧ mulTo d.terms k ≤ 12 * k ∧ Hid (Ext NoB w wr)) (fun _ i _ => d.terms.length - (intOf i).toNat)
  case atStart => exact ⟨0, by omega, rfl, rfl, by simp [mulTo], HE0⟩
  case round =>
    obtain ⟨k, hk, rfl, rfl, hmk, HR⟩ := hrel
    by_cases hlt : k < d.terms.length
    · obtain ⟨t, ht⟩ := at_some hlt
      obtain ⟨_, _, hv, _, _, hr⟩ := Kd.one_slice (kTerms.oneExt D3.out HR.out)
      injection hv with hv1 hv2 hv3
      subst hv1
      clear hv2 hv3
      obtain ⟨rb, ro, hA, _, hrow⟩ := hr (ne_nil_of_lt hlt)
      subst hA
      obtain ⟨Ka, ka, ⟨x0, x1, x2, x3⟩, _⟩ := row_term hrow ht
      have hsm := (HS.out.te t (List.mem_of_getElem? ht)).1
      have HMS := Lib.hid (mulTo_succ ht)
      have lx := cell_lt x0
      have HE1 : Hid (Ext NoB wr (wr.alloc (.cells #[.int .i64 t.op, .int .i64 t.fn, .slice Ka t.kids.length ka, .string t.num] 63))) := Lib.hid ((Ext.refl _ _).alloc _)
      clear hr hrow ht
      by_cases h19 : t.op = 19
      · have q : (t.op == 19) = true := by rw [beq_iff_eq]; exact h19
        have HM2 : Hid (mulTo d.terms (k + 1) = mulTo d.terms k + t.kids.length) := Lib.hid (by rw [HMS.out, if_pos h19])
        clear h19
        go_wp2_with fail
        exact ⟨⟨k + 1, by omega, by go_num, by rw [HM2.out]; go_num, by rw [HM2.out]; omega, Lib.hid (HR.out.trans HE1.out)⟩, by simp [intOf]; omega⟩
      · have q : (t.op == 19) = false := by rw [beq_eq_false_iff_ne]; exact h19
        have HM2 : Hid (mulTo d.terms (k + 1) = mulTo d.terms k) := Lib.hid (by rw [HMS.out, if_neg h19])
        clear h19
        go_wp2_with fail
        exact ⟨⟨k + 1, by omega, by go_num, by rw [HM2.out], by rw [HM2.out]; omega, Lib.hid (HR.out.trans HE1.out)⟩, by simp [intOf]; omega⟩
    · obtain rfl : k = d.terms.length := by omega
      clear hlt
      by_cases h20 : mulTo d.terms d.terms.length ≤ 20
      · have q : decide ((20 : Int) < ((mulTo d.terms d.terms.length : Nat) : Int)) = false := by rw [decide_eq_false_iff_not]; omega
        have q' : decide (20 < mulTo d.terms d.terms.length) = false := by rw [decide_eq_false_iff_not]; omega
        go_wp2_with fail
        go_ret
        exact NoSays.no h20 HR.out
      · have q : decide ((20 : Int) < ((mulTo d.terms d.terms.length : Nat) : Int)) = true := by rw [decide_eq_true_eq]; omega
        have q' : decide (20 < mulTo d.terms d.terms.length) = true := by rw [decide_eq_true_eq]; omega
        go_wp2_with fail
        go_ret
        exact NoSays.yes HR.out

set_option maxRecDepth 100000 in
set_option maxHeartbeats 1000000 in
theorem c_Loaded (d : Dump) (vd : Value) (hd : kDump.agg w NoB d vd) (hs : Small d) (hl : LoadOk d) : Calls Tryz.prog 12 #[vd] w fun e w' => ∃ s O', e = .returned (ptr s) ∧ Scr w' O' s d ∧ Gr NoB w O' w' := by
  have HD := Lib.hid hd
  obtain ⟨v1, v2, v3, v4, rfl, _⟩ := dump_open hd
  have HS := Lib.hid hs
  have HL := Lib.hid hl
  have HE0 : Hid (Ext NoB w (w.alloc (.cells #[v1, v2, v3, v4] 27))) := Lib.hid ((Ext.refl _ _).alloc _)
  clear hd hs hl
  go_enter Tryz.func12, Tryz.ntmps12
  go_wp2_with fail
  refine (c_Load d _ (kDump.aggExt HD.out HE0.out) HS.out HL.out).mono ?_
  rintro e w2 ⟨s, O', rfl, hscr, he⟩
  have HSC := Lib.hid hscr
  have HE2 := Lib.hid ((Gr.of (O := NoB) HE0.out).trans he)
  clear hscr he
  unfold ptr
  go_wp2_with fail
  go_ret
  exact ⟨_, _, rfl, HSC.out, HE2.out⟩
end
end Go.Proofs.YtfpmapbimhdafaaGreatDoor
